/- THE STRUCTS of package api: what cells read as them. Written by gen.py. -/
import Derived.Test.YtdnbpfohmhhmkaaData
namespace Go.Proofs.Ytdnbpfohmhhmkaa
open Go.RowKit
theorem cells3 : Try.prog.cellsOf 3 = 1 := by kernel_rfl
theorem cells5 : Try.prog.cellsOf 5 = 1 := by kernel_rfl
theorem cells22 : Try.prog.cellsOf 22 = 1 := by kernel_rfl
theorem cells34 : Try.prog.cellsOf 34 = 1 := by kernel_rfl
theorem cells44 : Try.prog.cellsOf 44 = 4 := by kernel_rfl
theorem bytes3 : Try.prog.bytesOf 3 = 8 := by kernel_rfl
theorem bytes5 : Try.prog.bytesOf 5 = 1 := by kernel_rfl
/-- armoire/armoirelaw05.Op -/
structure GOp where
  fKind : Int
  fAt : Int
  fB : (List UInt8)
  fKeep : (List Int)
  deriving DecidableEq
def rGOp : RD GOp := fun w p cs x => ∃ c0 c1 c2 c3 : List Value, cs = List.flatten [c0, c1, c2, c3] ∧ (rInt .i64) w p c0 x.fKind ∧ (rInt .i64) w p c1 x.fAt ∧ rBytes w p c2 x.fB ∧ (rList (rInt .i64)) w p c3 x.fKeep
theorem rGOp_lawful : Lawful rGOp 4 :=
  ⟨fun ⟨c0, c1, c2, c3, h, h0, h1, h2, h3⟩ => by rw [h]; simp only [List.flatten_cons, List.flatten_nil, List.append_nil, List.length_append, (rInt_lawful _).len h0, (rInt_lawful _).len h1, rBytes_lawful.len h2, (rList_lawful (rInt_lawful _)).len h3],
   fun ⟨c0, c1, c2, c3, h, h0, h1, h2, h3⟩ k hs => ⟨c0, c1, c2, c3, h, (rInt_lawful _).keep h0 k hs, (rInt_lawful _).keep h1 k hs, rBytes_lawful.keep h2 k hs, (rList_lawful (rInt_lawful _)).keep h3 k hs⟩,
   fun ⟨c0, c1, c2, c3, h, h0, h1, h2, h3⟩ hq => ⟨c0, c1, c2, c3, h, (rInt_lawful _).mono h0 hq, (rInt_lawful _).mono h1 hq, rBytes_lawful.mono h2 hq, (rList_lawful (rInt_lawful _)).mono h3 hq⟩⟩
def GOp.size (x : GOp) : Nat := (fun _ => 1) x.fKind + (fun _ => 1) x.fAt + (fun x : List UInt8 => x.length + 1) x.fB + (sumOf (fun _ => 1)) x.fKeep + 1
theorem redGOp {W : World} {m : Nat} {cs : List Value} (h : Red Try.prog W m 44 cs) : ∃ x, rGOp W (· < W.heap.size) cs x ∧ x.size ≤ m := by
  obtain ⟨hl, ms, h1, h2, h3⟩ := h.fields Try.underlying44 cells44
  match ms, h1 with
  | [m0, m1, m2, m3], _ =>
    have r0 : Red Try.prog W m0 3 ((cs.drop 0).take 1) := (congrArg (fun k => Red Try.prog W m0 3 ((cs.drop 0).take k)) cells3).mp (h3 0 _ m0 rfl rfl)
    obtain ⟨x0, g0, s0⟩ := Red.toInt Try.underlying3 r0
    have r1 : Red Try.prog W m1 3 ((cs.drop 1).take 1) := (congrArg (fun k => Red Try.prog W m1 3 ((cs.drop 1).take k)) cells3).mp (h3 1 _ m1 rfl rfl)
    obtain ⟨x1, g1, s1⟩ := Red.toInt Try.underlying3 r1
    have r2 : Red Try.prog W m2 22 ((cs.drop 2).take 1) := (congrArg (fun k => Red Try.prog W m2 22 ((cs.drop 2).take k)) cells22).mp (h3 2 _ m2 rfl rfl)
    obtain ⟨x2, g2, s2⟩ := Red.toBytes Try.underlying22 Try.underlying5 cells5 bytes5 r2
    have r3 : Red Try.prog W m3 34 ((cs.drop 3).take 1) := (congrArg (fun k => Red Try.prog W m3 34 ((cs.drop 3).take k)) cells34).mp (h3 3 _ m3 rfl rfl)
    obtain ⟨x3, g3, s3⟩ := Red.toList ((fun _ => 1)) Try.underlying34 cells3 bytes3 (by decide) (by decide) (fun h => Red.toInt Try.underlying3 h) r3
    have hp := parts_flat cs [1, 1, 1, 1] 0 (by simpa using hl)
    simp only [parts, List.drop_zero, Nat.zero_add, Nat.reduceAdd] at hp
    refine ⟨⟨x0, x1, x2, x3⟩, ⟨_, _, _, _, hp.symm, g0, g1, g2, g3⟩, ?_⟩
    simp only [List.sum_cons, List.sum_nil] at h2
    simp only [GOp.size] at *
    omega
end Go.Proofs.Ytdnbpfohmhhmkaa
