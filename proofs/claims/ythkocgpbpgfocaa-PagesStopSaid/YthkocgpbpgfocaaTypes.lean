/- THE STRUCTS of package api: what cells read as them. Written by gen.py. -/
import Derived.Test.YthkocgpbpgfocaaData
namespace Go.Proofs.Ythkocgpbpgfocaa
open Go.RowKit
theorem cells3 : Try.prog.cellsOf 3 = 1 := by kernel_rfl
theorem cells5 : Try.prog.cellsOf 5 = 1 := by kernel_rfl
theorem cells27 : Try.prog.cellsOf 27 = 1 := by kernel_rfl
theorem cells29 : Try.prog.cellsOf 29 = 3 := by kernel_rfl
theorem cells37 : Try.prog.cellsOf 37 = 2 := by kernel_rfl
theorem bytes5 : Try.prog.bytesOf 5 = 1 := by kernel_rfl
/-- armoire/api.Pair -/
structure GPair where
  fKey : (List UInt8)
  fValue : (List UInt8)
  fVersion : Int
  deriving DecidableEq
def rGPair : RD GPair := fun w p cs x => ∃ c0 c1 c2 : List Value, cs = List.flatten [c0, c1, c2] ∧ rBytes w p c0 x.fKey ∧ rBytes w p c1 x.fValue ∧ (rInt .i64) w p c2 x.fVersion
theorem rGPair_lawful : Lawful rGPair 3 :=
  ⟨fun ⟨c0, c1, c2, h, h0, h1, h2⟩ => by rw [h]; simp only [List.flatten_cons, List.flatten_nil, List.append_nil, List.length_append, rBytes_lawful.len h0, rBytes_lawful.len h1, (rInt_lawful _).len h2],
   fun ⟨c0, c1, c2, h, h0, h1, h2⟩ k hs => ⟨c0, c1, c2, h, rBytes_lawful.keep h0 k hs, rBytes_lawful.keep h1 k hs, (rInt_lawful _).keep h2 k hs⟩,
   fun ⟨c0, c1, c2, h, h0, h1, h2⟩ hq => ⟨c0, c1, c2, h, rBytes_lawful.mono h0 hq, rBytes_lawful.mono h1 hq, (rInt_lawful _).mono h2 hq⟩⟩
def GPair.size (x : GPair) : Nat := (fun x : List UInt8 => x.length + 1) x.fKey + (fun x : List UInt8 => x.length + 1) x.fValue + (fun _ => 1) x.fVersion + 1
theorem redGPair {W : World} {m : Nat} {cs : List Value} (h : Red Try.prog W m 29 cs) : ∃ x, rGPair W (· < W.heap.size) cs x ∧ x.size ≤ m := by
  obtain ⟨hl, ms, h1, h2, h3⟩ := h.fields Try.underlying29 cells29
  match ms, h1 with
  | [m0, m1, m2], _ =>
    have r0 : Red Try.prog W m0 27 ((cs.drop 0).take 1) := (congrArg (fun k => Red Try.prog W m0 27 ((cs.drop 0).take k)) cells27).mp (h3 0 _ m0 rfl rfl)
    obtain ⟨x0, g0, s0⟩ := Red.toBytes Try.underlying27 Try.underlying5 cells5 bytes5 r0
    have r1 : Red Try.prog W m1 27 ((cs.drop 1).take 1) := (congrArg (fun k => Red Try.prog W m1 27 ((cs.drop 1).take k)) cells27).mp (h3 1 _ m1 rfl rfl)
    obtain ⟨x1, g1, s1⟩ := Red.toBytes Try.underlying27 Try.underlying5 cells5 bytes5 r1
    have r2 : Red Try.prog W m2 3 ((cs.drop 2).take 1) := (congrArg (fun k => Red Try.prog W m2 3 ((cs.drop 2).take k)) cells3).mp (h3 2 _ m2 rfl rfl)
    obtain ⟨x2, g2, s2⟩ := Red.toInt Try.underlying3 r2
    have hp := parts_flat cs [1, 1, 1] 0 (by simpa using hl)
    simp only [parts, List.drop_zero, Nat.zero_add, Nat.reduceAdd] at hp
    refine ⟨⟨x0, x1, x2⟩, ⟨_, _, _, hp.symm, g0, g1, g2⟩, ?_⟩
    simp only [List.sum_cons, List.sum_nil] at h2
    simp only [GPair.size] at *
    omega

/-- armoire/api.Span -/
structure GSpan where
  fFrom : (List UInt8)
  fTo : (List UInt8)
  deriving DecidableEq
def rGSpan : RD GSpan := fun w p cs x => ∃ c0 c1 : List Value, cs = List.flatten [c0, c1] ∧ rBytes w p c0 x.fFrom ∧ rBytes w p c1 x.fTo
theorem rGSpan_lawful : Lawful rGSpan 2 :=
  ⟨fun ⟨c0, c1, h, h0, h1⟩ => by rw [h]; simp only [List.flatten_cons, List.flatten_nil, List.append_nil, List.length_append, rBytes_lawful.len h0, rBytes_lawful.len h1],
   fun ⟨c0, c1, h, h0, h1⟩ k hs => ⟨c0, c1, h, rBytes_lawful.keep h0 k hs, rBytes_lawful.keep h1 k hs⟩,
   fun ⟨c0, c1, h, h0, h1⟩ hq => ⟨c0, c1, h, rBytes_lawful.mono h0 hq, rBytes_lawful.mono h1 hq⟩⟩
def GSpan.size (x : GSpan) : Nat := (fun x : List UInt8 => x.length + 1) x.fFrom + (fun x : List UInt8 => x.length + 1) x.fTo + 1
theorem redGSpan {W : World} {m : Nat} {cs : List Value} (h : Red Try.prog W m 37 cs) : ∃ x, rGSpan W (· < W.heap.size) cs x ∧ x.size ≤ m := by
  obtain ⟨hl, ms, h1, h2, h3⟩ := h.fields Try.underlying37 cells37
  match ms, h1 with
  | [m0, m1], _ =>
    have r0 : Red Try.prog W m0 27 ((cs.drop 0).take 1) := (congrArg (fun k => Red Try.prog W m0 27 ((cs.drop 0).take k)) cells27).mp (h3 0 _ m0 rfl rfl)
    obtain ⟨x0, g0, s0⟩ := Red.toBytes Try.underlying27 Try.underlying5 cells5 bytes5 r0
    have r1 : Red Try.prog W m1 27 ((cs.drop 1).take 1) := (congrArg (fun k => Red Try.prog W m1 27 ((cs.drop 1).take k)) cells27).mp (h3 1 _ m1 rfl rfl)
    obtain ⟨x1, g1, s1⟩ := Red.toBytes Try.underlying27 Try.underlying5 cells5 bytes5 r1
    have hp := parts_flat cs [1, 1] 0 (by simpa using hl)
    simp only [parts, List.drop_zero, Nat.zero_add] at hp
    refine ⟨⟨x0, x1⟩, ⟨_, _, hp.symm, g0, g1⟩, ?_⟩
    simp only [List.sum_cons, List.sum_nil] at h2
    simp only [GSpan.size] at *
    omega
end Go.Proofs.Ythkocgpbpgfocaa
