/- PAGES: the type Op of layer 4's laws. Printed by genPgQ0.py. -/
import Derived.Test.YthkocgpbpgfocaaPgP
namespace Go.Proofs.Ythkocgpbpgfocaa
open Go.RowKit

theorem cells55 : Try.prog.cellsOf 55 = 6 := by kernel_rfl
/-- armoire/armoirelaw04.Op -/
structure GOp where
  fKind : Int
  fP : GPair
  fS : GSpan
  deriving DecidableEq
def rGOp : RD GOp := fun w p cs x => ∃ c0 c1 c2 : List Value, cs = List.flatten [c0, c1, c2] ∧ (rInt .i64) w p c0 x.fKind ∧ rGPair w p c1 x.fP ∧ rGSpan w p c2 x.fS
theorem rGOp_lawful : Lawful rGOp 6 :=
  ⟨fun ⟨c0, c1, c2, h, h0, h1, h2⟩ => by rw [h]; simp only [List.flatten_cons, List.flatten_nil, List.append_nil, List.length_append, (rInt_lawful _).len h0, rGPair_lawful.len h1, rGSpan_lawful.len h2],
   fun ⟨c0, c1, c2, h, h0, h1, h2⟩ k hs => ⟨c0, c1, c2, h, (rInt_lawful _).keep h0 k hs, rGPair_lawful.keep h1 k hs, rGSpan_lawful.keep h2 k hs⟩,
   fun ⟨c0, c1, c2, h, h0, h1, h2⟩ hq => ⟨c0, c1, c2, h, (rInt_lawful _).mono h0 hq, rGPair_lawful.mono h1 hq, rGSpan_lawful.mono h2 hq⟩⟩
def GOp.size (x : GOp) : Nat := (fun _ => 1) x.fKind + GPair.size x.fP + GSpan.size x.fS + 1
theorem redGOp {W : World} {m : Nat} {cs : List Value} (h : Red Try.prog W m 55 cs) : ∃ x, rGOp W (· < W.heap.size) cs x ∧ x.size ≤ m := by
  obtain ⟨hl, ms, h1, h2, h3⟩ := h.fields Try.underlying55 cells55
  match ms, h1 with
  | [m0, m1, m2], _ =>
    have r0 : Red Try.prog W m0 3 ((cs.drop 0).take 1) := (congrArg (fun k => Red Try.prog W m0 3 ((cs.drop 0).take k)) cells3).mp (h3 0 _ m0 rfl rfl)
    obtain ⟨x0, g0, s0⟩ := Red.toInt Try.underlying3 r0
    have r1 : Red Try.prog W m1 29 ((cs.drop 1).take 3) := (congrArg (fun k => Red Try.prog W m1 29 ((cs.drop 1).take k)) cells29).mp (h3 1 _ m1 rfl rfl)
    obtain ⟨x1, g1, s1⟩ := redGPair r1
    have r2 : Red Try.prog W m2 37 ((cs.drop 4).take 2) := (congrArg (fun k => Red Try.prog W m2 37 ((cs.drop 4).take k)) cells37).mp (h3 2 _ m2 rfl rfl)
    obtain ⟨x2, g2, s2⟩ := redGSpan r2
    have hp := parts_flat cs [1, 3, 2] 0 (by simpa using hl)
    simp only [parts, List.drop_zero, Nat.zero_add, Nat.reduceAdd] at hp
    refine ⟨⟨x0, x1, x2⟩, ⟨_, _, _, hp.symm, g0, g1, g2⟩, ?_⟩
    simp only [List.sum_cons, List.sum_nil] at h2
    simp only [GOp.size] at *
    omega

theorem rGOp_open {w : World} {p : Nat → Prop} {cs : List Value} {x : GOp} (h : rGOp w p cs x) : ∃ aPKey cPKey aPValue cPValue aSFrom cSFrom aSTo cSTo, cs = [.int .i64 x.fKind, .slice aPKey x.fP.fKey.length cPKey, .slice aPValue x.fP.fValue.length cPValue, .int .i64 x.fP.fVersion, .slice aSFrom x.fS.fFrom.length cSFrom, .slice aSTo x.fS.fTo.length cSTo] ∧ isI64 x.fKind ∧ rGPair w p [.slice aPKey x.fP.fKey.length cPKey, .slice aPValue x.fP.fValue.length cPValue, .int .i64 x.fP.fVersion] x.fP ∧ rGSpan w p [.slice aSFrom x.fS.fFrom.length cSFrom, .slice aSTo x.fS.fTo.length cSTo] x.fS ∧ True := by
  obtain ⟨k0, k1, k2, rfl, h0, h1, h2⟩ := h
  obtain ⟨rfl, f0⟩ := h0
  have f1 := h1
  obtain ⟨aPKey, cPKey, aPValue, cPValue, rfl, -⟩ := rGPair_open h1
  have f2 := h2
  obtain ⟨aSFrom, cSFrom, aSTo, cSTo, rfl, -⟩ := rGSpan_open h2
  exact ⟨aPKey, cPKey, aPValue, cPValue, aSFrom, cSFrom, aSTo, cSTo, rfl, isI64_wf f0, f1, f2, trivial⟩
theorem rGOp_ones {w : World} {p : Nat → Prop} {cs : List Value} {x : GOp} (h : rGOp w p cs x) : ones cs = true := by
  obtain ⟨_, _, _, _, _, _, _, _, rfl, -⟩ := rGOp_open h
  rfl
theorem rGOp_mk (w : World) (p : Nat → Prop) {x : GOp} {aPKey aPValue aSFrom aSTo : Option Addr} {cPKey cPValue cSFrom cSTo : Nat} (h0 : isI64 x.fKind) (h1 : rGPair w p [.slice aPKey x.fP.fKey.length cPKey, .slice aPValue x.fP.fValue.length cPValue, .int .i64 x.fP.fVersion] x.fP) (h2 : rGSpan w p [.slice aSFrom x.fS.fFrom.length cSFrom, .slice aSTo x.fS.fTo.length cSTo] x.fS) : rGOp w p [.int .i64 x.fKind, .slice aPKey x.fP.fKey.length cPKey, .slice aPValue x.fP.fValue.length cPValue, .int .i64 x.fP.fVersion, .slice aSFrom x.fS.fFrom.length cSFrom, .slice aSTo x.fS.fTo.length cSTo] x :=
  ⟨[.int .i64 x.fKind], [.slice aPKey x.fP.fKey.length cPKey, .slice aPValue x.fP.fValue.length cPValue, .int .i64 x.fP.fVersion], [.slice aSFrom x.fS.fFrom.length cSFrom, .slice aSTo x.fS.fTo.length cSTo], rfl, ⟨rfl, wf_of_isI64 h0⟩, h1, h2⟩
theorem S_Op : StructT Try.prog 55 6 := ⟨⟨_, Try.underlying55⟩, by kernel_rfl⟩
theorem B_Op : BuildT Try.prog 55 [1, 3, 2] := by
  obtain ⟨i, hi, hz, -, -⟩ := info_parts (by kernel_rfl : (Try.prog.info? 55).map (fun i => (i.zero, i.size, i.bytes)) = some (some (.agg #[.int .i64 0, .slice none 0 0, .slice none 0 0, .int .i64 0, .slice none 0 0, .slice none 0 0]), 6, 112))
  exact ⟨_, i, _, [(0, 1), (1, 3), (4, 2)], Try.underlying55, hi, hz, rfl, by kernel_rfl, rfl, by decide⟩
theorem ldz_Op (a : Act) (dst : Option Tmp) (x : Operand) (ty : TypeId) (pos : String) (after : Array Edge) (guard : Option (Nat × Bool)) : execOp a.eval { dst := dst, op := .load 55 x, type := ty, pos := pos, after := after, guard := guard } = wholeSem 55 (a.eval x) := rfl
theorem stz_Op (a : Act) (dst : Option Tmp) (x y : Operand) (ty : TypeId) (pos : String) (after : Array Edge) (guard : Option (Nat × Bool)) : execOp a.eval { dst := dst, op := .store 55 x y, type := ty, pos := pos, after := after, guard := guard } = storeSem 55 (a.eval x) (a.eval y) := rfl
theorem bdz_Op (a : Act) (dst : Option Tmp) (parts : Array (Nat × Operand)) (ty : TypeId) (pos : String) (after : Array Edge) (guard : Option (Nat × Bool)) : execOp a.eval { dst := dst, op := .build 55 parts, type := ty, pos := pos, after := after, guard := guard } = buildSem 55 (parts.map fun x => (x.1, a.eval x.2)) := rfl
theorem T_lOp : SliceT Try.prog 53 55 6 112 := SliceT.mk' Try.underlying53 (z := .agg #[.int .i64 0, .slice none 0 0, .slice none 0 0, .int .i64 0, .slice none 0 0, .slice none 0 0]) (by kernel_rfl) rfl (by decide)
theorem lsz_Op (a : Act) (dst : Option Tmp) (parts : Array (Nat × Operand)) (ty : TypeId) (pos : String) (after : Array Edge) (guard : Option (Nat × Bool)) : execOp a.eval { dst := dst, op := .buildSlice 53 1 parts, type := ty, pos := pos, after := after, guard := guard } = listSem 53 1 (parts.map fun x => (x.1, a.eval x.2)) := rfl
end Go.Proofs.Ythkocgpbpgfocaa
