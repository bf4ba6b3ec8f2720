/- THE STRUCTS of package api: what cells read as them. Written by gen.py. -/
import Derived.Test.YtpblmaklbnpbfaaData
namespace Go.Proofs.Ytpblmaklbnpbfaa
open Go.RowKit
theorem cells3 : Try.prog.cellsOf 3 = 1 := by kernel_rfl
theorem cells5 : Try.prog.cellsOf 5 = 1 := by kernel_rfl
theorem cells22 : Try.prog.cellsOf 22 = 1 := by kernel_rfl
theorem cells23 : Try.prog.cellsOf 23 = 1 := by kernel_rfl
theorem cells25 : Try.prog.cellsOf 25 = 5 := by kernel_rfl
theorem cells29 : Try.prog.cellsOf 29 = 2 := by kernel_rfl
theorem cells32 : Try.prog.cellsOf 32 = 2 := by kernel_rfl
theorem bytes5 : Try.prog.bytesOf 5 = 1 := by kernel_rfl
theorem bytes32 : Try.prog.bytesOf 32 = 32 := by kernel_rfl
/-- armoire/api.Owner -/
structure GOwner where
  fGroup : Int
  fFrom : (List UInt8)
  deriving DecidableEq
def rGOwner : RD GOwner := fun w p cs x => ∃ c0 c1 : List Value, cs = List.flatten [c0, c1] ∧ (rInt .i64) w p c0 x.fGroup ∧ rBytes w p c1 x.fFrom
theorem rGOwner_lawful : Lawful rGOwner 2 :=
  ⟨fun ⟨c0, c1, h, h0, h1⟩ => by rw [h]; simp only [List.flatten_cons, List.flatten_nil, List.append_nil, List.length_append, (rInt_lawful _).len h0, rBytes_lawful.len h1],
   fun ⟨c0, c1, h, h0, h1⟩ k hs => ⟨c0, c1, h, (rInt_lawful _).keep h0 k hs, rBytes_lawful.keep h1 k hs⟩,
   fun ⟨c0, c1, h, h0, h1⟩ hq => ⟨c0, c1, h, (rInt_lawful _).mono h0 hq, rBytes_lawful.mono h1 hq⟩⟩
def GOwner.size (x : GOwner) : Nat := (fun _ => 1) x.fGroup + (fun x : List UInt8 => x.length + 1) x.fFrom + 1
theorem redGOwner {W : World} {m : Nat} {cs : List Value} (h : Red Try.prog W m 32 cs) : ∃ x, rGOwner W (· < W.heap.size) cs x ∧ x.size ≤ m := by
  obtain ⟨hl, ms, h1, h2, h3⟩ := h.fields Try.underlying32 cells32
  match ms, h1 with
  | [m0, m1], _ =>
    have r0 : Red Try.prog W m0 3 ((cs.drop 0).take 1) := (congrArg (fun k => Red Try.prog W m0 3 ((cs.drop 0).take k)) cells3).mp (h3 0 _ m0 rfl rfl)
    obtain ⟨x0, g0, s0⟩ := Red.toInt Try.underlying3 r0
    have r1 : Red Try.prog W m1 23 ((cs.drop 1).take 1) := (congrArg (fun k => Red Try.prog W m1 23 ((cs.drop 1).take k)) cells23).mp (h3 1 _ m1 rfl rfl)
    obtain ⟨x1, g1, s1⟩ := Red.toBytes Try.underlying23 Try.underlying5 cells5 bytes5 r1
    have hp := parts_flat cs [1, 1] 0 (by simpa using hl)
    simp only [parts, List.drop_zero, Nat.zero_add] at hp
    refine ⟨⟨x0, x1⟩, ⟨_, _, hp.symm, g0, g1⟩, ?_⟩
    simp only [List.sum_cons, List.sum_nil] at h2
    simp only [GOwner.size] at *
    omega

/-- armoire/api.Routes -/
structure GRoutes where
  fEpoch : Int
  fBase : Int
  fSpans : (List GOwner)
  fMoving : Int
  fCut : (List UInt8)
  deriving DecidableEq
def rGRoutes : RD GRoutes := fun w p cs x => ∃ c0 c1 c2 c3 c4 : List Value, cs = List.flatten [c0, c1, c2, c3, c4] ∧ (rInt .i64) w p c0 x.fEpoch ∧ (rInt .i64) w p c1 x.fBase ∧ (rList rGOwner) w p c2 x.fSpans ∧ (rInt .i64) w p c3 x.fMoving ∧ rBytes w p c4 x.fCut
theorem rGRoutes_lawful : Lawful rGRoutes 5 :=
  ⟨fun ⟨c0, c1, c2, c3, c4, h, h0, h1, h2, h3, h4⟩ => by rw [h]; simp only [List.flatten_cons, List.flatten_nil, List.append_nil, List.length_append, (rInt_lawful _).len h0, (rInt_lawful _).len h1, (rList_lawful rGOwner_lawful).len h2, (rInt_lawful _).len h3, rBytes_lawful.len h4],
   fun ⟨c0, c1, c2, c3, c4, h, h0, h1, h2, h3, h4⟩ k hs => ⟨c0, c1, c2, c3, c4, h, (rInt_lawful _).keep h0 k hs, (rInt_lawful _).keep h1 k hs, (rList_lawful rGOwner_lawful).keep h2 k hs, (rInt_lawful _).keep h3 k hs, rBytes_lawful.keep h4 k hs⟩,
   fun ⟨c0, c1, c2, c3, c4, h, h0, h1, h2, h3, h4⟩ hq => ⟨c0, c1, c2, c3, c4, h, (rInt_lawful _).mono h0 hq, (rInt_lawful _).mono h1 hq, (rList_lawful rGOwner_lawful).mono h2 hq, (rInt_lawful _).mono h3 hq, rBytes_lawful.mono h4 hq⟩⟩
def GRoutes.size (x : GRoutes) : Nat := (fun _ => 1) x.fEpoch + (fun _ => 1) x.fBase + (sumOf GOwner.size) x.fSpans + (fun _ => 1) x.fMoving + (fun x : List UInt8 => x.length + 1) x.fCut + 1
theorem redGRoutes {W : World} {m : Nat} {cs : List Value} (h : Red Try.prog W m 25 cs) : ∃ x, rGRoutes W (· < W.heap.size) cs x ∧ x.size ≤ m := by
  obtain ⟨hl, ms, h1, h2, h3⟩ := h.fields Try.underlying25 cells25
  match ms, h1 with
  | [m0, m1, m2, m3, m4], _ =>
    have r0 : Red Try.prog W m0 3 ((cs.drop 0).take 1) := (congrArg (fun k => Red Try.prog W m0 3 ((cs.drop 0).take k)) cells3).mp (h3 0 _ m0 rfl rfl)
    obtain ⟨x0, g0, s0⟩ := Red.toInt Try.underlying3 r0
    have r1 : Red Try.prog W m1 3 ((cs.drop 1).take 1) := (congrArg (fun k => Red Try.prog W m1 3 ((cs.drop 1).take k)) cells3).mp (h3 1 _ m1 rfl rfl)
    obtain ⟨x1, g1, s1⟩ := Red.toInt Try.underlying3 r1
    have r2 : Red Try.prog W m2 22 ((cs.drop 2).take 1) := (congrArg (fun k => Red Try.prog W m2 22 ((cs.drop 2).take k)) cells22).mp (h3 2 _ m2 rfl rfl)
    obtain ⟨x2, g2, s2⟩ := Red.toList (GOwner.size) Try.underlying22 cells32 bytes32 (by decide) (by decide) (fun h => redGOwner h) r2
    have r3 : Red Try.prog W m3 3 ((cs.drop 3).take 1) := (congrArg (fun k => Red Try.prog W m3 3 ((cs.drop 3).take k)) cells3).mp (h3 3 _ m3 rfl rfl)
    obtain ⟨x3, g3, s3⟩ := Red.toInt Try.underlying3 r3
    have r4 : Red Try.prog W m4 23 ((cs.drop 4).take 1) := (congrArg (fun k => Red Try.prog W m4 23 ((cs.drop 4).take k)) cells23).mp (h3 4 _ m4 rfl rfl)
    obtain ⟨x4, g4, s4⟩ := Red.toBytes Try.underlying23 Try.underlying5 cells5 bytes5 r4
    have hp := parts_flat cs [1, 1, 1, 1, 1] 0 (by simpa using hl)
    simp only [parts, List.drop_zero, Nat.zero_add, Nat.reduceAdd] at hp
    refine ⟨⟨x0, x1, x2, x3, x4⟩, ⟨_, _, _, _, _, hp.symm, g0, g1, g2, g3, g4⟩, ?_⟩
    simp only [List.sum_cons, List.sum_nil] at h2
    simp only [GRoutes.size] at *
    omega

/-- armoire/api.Span -/
structure GSpan where
  fFrom : (List UInt8)
  fTo : (List UInt8)
  deriving DecidableEq
def rGSpan : RD GSpan := fun w p cs x => ∃ c0 c1 : List Value, cs = List.flatten [c0, c1] ∧ rBytes w p c0 x.fFrom ∧ rBytes w p c1 x.fTo
theorem rGSpan_lawful : Lawful rGSpan 2 :=
  ⟨fun ⟨c0, c1, h, h0, h1⟩ => by rw [h]; simp only [List.flatten_cons, List.flatten_nil, List.append_nil, List.length_append, rBytes_lawful.len h0, rBytes_lawful.len h1],
   fun ⟨c0, c1, h, h0, h1⟩ k hs => ⟨c0, c1, h, rBytes_lawful.keep h0 k hs, rBytes_lawful.keep h1 k hs⟩,
   fun ⟨c0, c1, h, h0, h1⟩ hq => ⟨c0, c1, h, rBytes_lawful.mono h0 hq, rBytes_lawful.mono h1 hq⟩⟩
def GSpan.size (x : GSpan) : Nat := (fun x : List UInt8 => x.length + 1) x.fFrom + (fun x : List UInt8 => x.length + 1) x.fTo + 1
theorem redGSpan {W : World} {m : Nat} {cs : List Value} (h : Red Try.prog W m 29 cs) : ∃ x, rGSpan W (· < W.heap.size) cs x ∧ x.size ≤ m := by
  obtain ⟨hl, ms, h1, h2, h3⟩ := h.fields Try.underlying29 cells29
  match ms, h1 with
  | [m0, m1], _ =>
    have r0 : Red Try.prog W m0 23 ((cs.drop 0).take 1) := (congrArg (fun k => Red Try.prog W m0 23 ((cs.drop 0).take k)) cells23).mp (h3 0 _ m0 rfl rfl)
    obtain ⟨x0, g0, s0⟩ := Red.toBytes Try.underlying23 Try.underlying5 cells5 bytes5 r0
    have r1 : Red Try.prog W m1 23 ((cs.drop 1).take 1) := (congrArg (fun k => Red Try.prog W m1 23 ((cs.drop 1).take k)) cells23).mp (h3 1 _ m1 rfl rfl)
    obtain ⟨x1, g1, s1⟩ := Red.toBytes Try.underlying23 Try.underlying5 cells5 bytes5 r1
    have hp := parts_flat cs [1, 1] 0 (by simpa using hl)
    simp only [parts, List.drop_zero, Nat.zero_add] at hp
    refine ⟨⟨x0, x1⟩, ⟨_, _, hp.symm, g0, g1⟩, ?_⟩
    simp only [List.sum_cons, List.sum_nil] at h2
    simp only [GSpan.size] at *
    omega
end Go.Proofs.Ytpblmaklbnpbfaa
