/- THE STRUCTS of package api: what cells read as them. Written by gen.py. -/
import Derived.Test.YthchpdflnpfjkaaQData
namespace Go.Proofs.Ythchpdflnpfjkaa
open Go.RowKit
theorem cells5 : Try.prog.cellsOf 5 = 1 := by kernel_rfl
theorem cells31 : Try.prog.cellsOf 31 = 1 := by kernel_rfl
theorem cells33 : Try.prog.cellsOf 33 = 1 := by kernel_rfl
theorem cells35 : Try.prog.cellsOf 35 = 3 := by kernel_rfl
theorem bytes5 : Try.prog.bytesOf 5 = 1 := by kernel_rfl
/-- armoire/api.Call -/
structure GCall where
  fClient : Int
  fSeq : Int
  fData : (List UInt8)
  deriving DecidableEq
def rGCall : RD GCall := fun w p cs x => ∃ c0 c1 c2 : List Value, cs = List.flatten [c0, c1, c2] ∧ (rInt .u64) w p c0 x.fClient ∧ (rInt .u64) w p c1 x.fSeq ∧ rBytes w p c2 x.fData
theorem rGCall_lawful : Lawful rGCall 3 :=
  ⟨fun ⟨c0, c1, c2, h, h0, h1, h2⟩ => by rw [h]; simp only [List.flatten_cons, List.flatten_nil, List.append_nil, List.length_append, (rInt_lawful _).len h0, (rInt_lawful _).len h1, rBytes_lawful.len h2],
   fun ⟨c0, c1, c2, h, h0, h1, h2⟩ k hs => ⟨c0, c1, c2, h, (rInt_lawful _).keep h0 k hs, (rInt_lawful _).keep h1 k hs, rBytes_lawful.keep h2 k hs⟩,
   fun ⟨c0, c1, c2, h, h0, h1, h2⟩ hq => ⟨c0, c1, c2, h, (rInt_lawful _).mono h0 hq, (rInt_lawful _).mono h1 hq, rBytes_lawful.mono h2 hq⟩⟩
def GCall.size (x : GCall) : Nat := (fun _ => 1) x.fClient + (fun _ => 1) x.fSeq + (fun x : List UInt8 => x.length + 1) x.fData + 1
theorem redGCall {W : World} {m : Nat} {cs : List Value} (h : Red Try.prog W m 35 cs) : ∃ x, rGCall W (· < W.heap.size) cs x ∧ x.size ≤ m := by
  obtain ⟨hl, ms, h1, h2, h3⟩ := h.fields Try.underlying35 cells35
  match ms, h1 with
  | [m0, m1, m2], _ =>
    have r0 : Red Try.prog W m0 33 ((cs.drop 0).take 1) := (congrArg (fun k => Red Try.prog W m0 33 ((cs.drop 0).take k)) cells33).mp (h3 0 _ m0 rfl rfl)
    obtain ⟨x0, g0, s0⟩ := Red.toInt Try.underlying33 r0
    have r1 : Red Try.prog W m1 33 ((cs.drop 1).take 1) := (congrArg (fun k => Red Try.prog W m1 33 ((cs.drop 1).take k)) cells33).mp (h3 1 _ m1 rfl rfl)
    obtain ⟨x1, g1, s1⟩ := Red.toInt Try.underlying33 r1
    have r2 : Red Try.prog W m2 31 ((cs.drop 2).take 1) := (congrArg (fun k => Red Try.prog W m2 31 ((cs.drop 2).take k)) cells31).mp (h3 2 _ m2 rfl rfl)
    obtain ⟨x2, g2, s2⟩ := Red.toBytes Try.underlying31 Try.underlying5 cells5 bytes5 r2
    have hp := parts_flat cs [1, 1, 1] 0 (by simpa using hl)
    simp only [parts, List.drop_zero, Nat.zero_add, Nat.reduceAdd] at hp
    refine ⟨⟨x0, x1, x2⟩, ⟨_, _, _, hp.symm, g0, g1, g2⟩, ?_⟩
    simp only [List.sum_cons, List.sum_nil] at h2
    simp only [GCall.size] at *
    omega
end Go.Proofs.Ythchpdflnpfjkaa
