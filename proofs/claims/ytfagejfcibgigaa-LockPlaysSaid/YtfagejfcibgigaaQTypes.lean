/- THE STRUCTS of package api: what cells read as them. Written by gen.py. -/
import Derived.Test.YtfagejfcibgigaaQData
namespace Go.Proofs.Ytfagejfcibgigaa
open Go.RowKit
theorem cells4 : Try.prog.cellsOf 4 = 1 := by kernel_rfl
theorem cells5 : Try.prog.cellsOf 5 = 1 := by kernel_rfl
theorem cells23 : Try.prog.cellsOf 23 = 1 := by kernel_rfl
theorem cells24 : Try.prog.cellsOf 24 = 1 := by kernel_rfl
theorem cells25 : Try.prog.cellsOf 25 = 1 := by kernel_rfl
theorem cells26 : Try.prog.cellsOf 26 = 1 := by kernel_rfl
theorem cells28 : Try.prog.cellsOf 28 = 4 := by kernel_rfl
theorem cells42 : Try.prog.cellsOf 42 = 1 := by kernel_rfl
theorem cells46 : Try.prog.cellsOf 46 = 2 := by kernel_rfl
theorem cells48 : Try.prog.cellsOf 48 = 3 := by kernel_rfl
theorem bytes5 : Try.prog.bytesOf 5 = 1 := by kernel_rfl
theorem bytes42 : Try.prog.bytesOf 42 = 24 := by kernel_rfl
theorem bytes46 : Try.prog.bytesOf 46 = 48 := by kernel_rfl
theorem bytes48 : Try.prog.bytesOf 48 = 56 := by kernel_rfl
/-- armoire/api.Span -/
structure GSpan where
  fFrom : (List UInt8)
  fTo : (List UInt8)
  deriving DecidableEq
def rGSpan : RD GSpan := fun w p cs x => ∃ c0 c1 : List Value, cs = List.flatten [c0, c1] ∧ rBytes w p c0 x.fFrom ∧ rBytes w p c1 x.fTo
theorem rGSpan_lawful : Lawful rGSpan 2 :=
  ⟨fun ⟨c0, c1, h, h0, h1⟩ => by rw [h]; simp only [List.flatten_cons, List.flatten_nil, List.append_nil, List.length_append, rBytes_lawful.len h0, rBytes_lawful.len h1],
   fun ⟨c0, c1, h, h0, h1⟩ k hs => ⟨c0, c1, h, rBytes_lawful.keep h0 k hs, rBytes_lawful.keep h1 k hs⟩,
   fun ⟨c0, c1, h, h0, h1⟩ hq => ⟨c0, c1, h, rBytes_lawful.mono h0 hq, rBytes_lawful.mono h1 hq⟩⟩
def GSpan.size (x : GSpan) : Nat := (fun x : List UInt8 => x.length + 1) x.fFrom + (fun x : List UInt8 => x.length + 1) x.fTo + 1
theorem redGSpan {W : World} {m : Nat} {cs : List Value} (h : Red Try.prog W m 46 cs) : ∃ x, rGSpan W (· < W.heap.size) cs x ∧ x.size ≤ m := by
  obtain ⟨hl, ms, h1, h2, h3⟩ := h.fields Try.underlying46 cells46
  match ms, h1 with
  | [m0, m1], _ =>
    have r0 : Red Try.prog W m0 42 ((cs.drop 0).take 1) := (congrArg (fun k => Red Try.prog W m0 42 ((cs.drop 0).take k)) cells42).mp (h3 0 _ m0 rfl rfl)
    obtain ⟨x0, g0, s0⟩ := Red.toBytes Try.underlying42 Try.underlying5 cells5 bytes5 r0
    have r1 : Red Try.prog W m1 42 ((cs.drop 1).take 1) := (congrArg (fun k => Red Try.prog W m1 42 ((cs.drop 1).take k)) cells42).mp (h3 1 _ m1 rfl rfl)
    obtain ⟨x1, g1, s1⟩ := Red.toBytes Try.underlying42 Try.underlying5 cells5 bytes5 r1
    have hp := parts_flat cs [1, 1] 0 (by simpa using hl)
    simp only [parts, List.drop_zero, Nat.zero_add] at hp
    refine ⟨⟨x0, x1⟩, ⟨_, _, hp.symm, g0, g1⟩, ?_⟩
    simp only [List.sum_cons, List.sum_nil] at h2
    simp only [GSpan.size] at *
    omega

/-- armoire/api.Write -/
structure GWrite where
  fKey : (List UInt8)
  fValue : (List UInt8)
  fDrop : Bool
  deriving DecidableEq
def rGWrite : RD GWrite := fun w p cs x => ∃ c0 c1 c2 : List Value, cs = List.flatten [c0, c1, c2] ∧ rBytes w p c0 x.fKey ∧ rBytes w p c1 x.fValue ∧ rBool w p c2 x.fDrop
theorem rGWrite_lawful : Lawful rGWrite 3 :=
  ⟨fun ⟨c0, c1, c2, h, h0, h1, h2⟩ => by rw [h]; simp only [List.flatten_cons, List.flatten_nil, List.append_nil, List.length_append, rBytes_lawful.len h0, rBytes_lawful.len h1, rBool_lawful.len h2],
   fun ⟨c0, c1, c2, h, h0, h1, h2⟩ k hs => ⟨c0, c1, c2, h, rBytes_lawful.keep h0 k hs, rBytes_lawful.keep h1 k hs, rBool_lawful.keep h2 k hs⟩,
   fun ⟨c0, c1, c2, h, h0, h1, h2⟩ hq => ⟨c0, c1, c2, h, rBytes_lawful.mono h0 hq, rBytes_lawful.mono h1 hq, rBool_lawful.mono h2 hq⟩⟩
def GWrite.size (x : GWrite) : Nat := (fun x : List UInt8 => x.length + 1) x.fKey + (fun x : List UInt8 => x.length + 1) x.fValue + (fun _ => 1) x.fDrop + 1
theorem redGWrite {W : World} {m : Nat} {cs : List Value} (h : Red Try.prog W m 48 cs) : ∃ x, rGWrite W (· < W.heap.size) cs x ∧ x.size ≤ m := by
  obtain ⟨hl, ms, h1, h2, h3⟩ := h.fields Try.underlying48 cells48
  match ms, h1 with
  | [m0, m1, m2], _ =>
    have r0 : Red Try.prog W m0 42 ((cs.drop 0).take 1) := (congrArg (fun k => Red Try.prog W m0 42 ((cs.drop 0).take k)) cells42).mp (h3 0 _ m0 rfl rfl)
    obtain ⟨x0, g0, s0⟩ := Red.toBytes Try.underlying42 Try.underlying5 cells5 bytes5 r0
    have r1 : Red Try.prog W m1 42 ((cs.drop 1).take 1) := (congrArg (fun k => Red Try.prog W m1 42 ((cs.drop 1).take k)) cells42).mp (h3 1 _ m1 rfl rfl)
    obtain ⟨x1, g1, s1⟩ := Red.toBytes Try.underlying42 Try.underlying5 cells5 bytes5 r1
    have r2 : Red Try.prog W m2 4 ((cs.drop 2).take 1) := (congrArg (fun k => Red Try.prog W m2 4 ((cs.drop 2).take k)) cells4).mp (h3 2 _ m2 rfl rfl)
    obtain ⟨x2, g2, s2⟩ := Red.toBool Try.underlying4 r2
    have hp := parts_flat cs [1, 1, 1] 0 (by simpa using hl)
    simp only [parts, List.drop_zero, Nat.zero_add, Nat.reduceAdd] at hp
    refine ⟨⟨x0, x1, x2⟩, ⟨_, _, _, hp.symm, g0, g1, g2⟩, ?_⟩
    simp only [List.sum_cons, List.sum_nil] at h2
    simp only [GWrite.size] at *
    omega

/-- armoire/api.Held -/
structure GHeld where
  fTxn : Int
  fKeys : (List (List UInt8))
  fSpans : (List GSpan)
  fWrites : (List GWrite)
  deriving DecidableEq
def rGHeld : RD GHeld := fun w p cs x => ∃ c0 c1 c2 c3 : List Value, cs = List.flatten [c0, c1, c2, c3] ∧ (rInt .u64) w p c0 x.fTxn ∧ (rList rBytes) w p c1 x.fKeys ∧ (rList rGSpan) w p c2 x.fSpans ∧ (rList rGWrite) w p c3 x.fWrites
theorem rGHeld_lawful : Lawful rGHeld 4 :=
  ⟨fun ⟨c0, c1, c2, c3, h, h0, h1, h2, h3⟩ => by rw [h]; simp only [List.flatten_cons, List.flatten_nil, List.append_nil, List.length_append, (rInt_lawful _).len h0, (rList_lawful rBytes_lawful).len h1, (rList_lawful rGSpan_lawful).len h2, (rList_lawful rGWrite_lawful).len h3],
   fun ⟨c0, c1, c2, c3, h, h0, h1, h2, h3⟩ k hs => ⟨c0, c1, c2, c3, h, (rInt_lawful _).keep h0 k hs, (rList_lawful rBytes_lawful).keep h1 k hs, (rList_lawful rGSpan_lawful).keep h2 k hs, (rList_lawful rGWrite_lawful).keep h3 k hs⟩,
   fun ⟨c0, c1, c2, c3, h, h0, h1, h2, h3⟩ hq => ⟨c0, c1, c2, c3, h, (rInt_lawful _).mono h0 hq, (rList_lawful rBytes_lawful).mono h1 hq, (rList_lawful rGSpan_lawful).mono h2 hq, (rList_lawful rGWrite_lawful).mono h3 hq⟩⟩
def GHeld.size (x : GHeld) : Nat := (fun _ => 1) x.fTxn + (sumOf (fun x : List UInt8 => x.length + 1)) x.fKeys + (sumOf GSpan.size) x.fSpans + (sumOf GWrite.size) x.fWrites + 1
theorem redGHeld {W : World} {m : Nat} {cs : List Value} (h : Red Try.prog W m 28 cs) : ∃ x, rGHeld W (· < W.heap.size) cs x ∧ x.size ≤ m := by
  obtain ⟨hl, ms, h1, h2, h3⟩ := h.fields Try.underlying28 cells28
  match ms, h1 with
  | [m0, m1, m2, m3], _ =>
    have r0 : Red Try.prog W m0 23 ((cs.drop 0).take 1) := (congrArg (fun k => Red Try.prog W m0 23 ((cs.drop 0).take k)) cells23).mp (h3 0 _ m0 rfl rfl)
    obtain ⟨x0, g0, s0⟩ := Red.toInt Try.underlying23 r0
    have r1 : Red Try.prog W m1 24 ((cs.drop 1).take 1) := (congrArg (fun k => Red Try.prog W m1 24 ((cs.drop 1).take k)) cells24).mp (h3 1 _ m1 rfl rfl)
    obtain ⟨x1, g1, s1⟩ := Red.toList ((fun x : List UInt8 => x.length + 1)) Try.underlying24 cells42 bytes42 (by decide) (by decide) (fun h => Red.toBytes Try.underlying42 Try.underlying5 cells5 bytes5 h) r1
    have r2 : Red Try.prog W m2 25 ((cs.drop 2).take 1) := (congrArg (fun k => Red Try.prog W m2 25 ((cs.drop 2).take k)) cells25).mp (h3 2 _ m2 rfl rfl)
    obtain ⟨x2, g2, s2⟩ := Red.toList (GSpan.size) Try.underlying25 cells46 bytes46 (by decide) (by decide) (fun h => redGSpan h) r2
    have r3 : Red Try.prog W m3 26 ((cs.drop 3).take 1) := (congrArg (fun k => Red Try.prog W m3 26 ((cs.drop 3).take k)) cells26).mp (h3 3 _ m3 rfl rfl)
    obtain ⟨x3, g3, s3⟩ := Red.toList (GWrite.size) Try.underlying26 cells48 bytes48 (by decide) (by decide) (fun h => redGWrite h) r3
    have hp := parts_flat cs [1, 1, 1, 1] 0 (by simpa using hl)
    simp only [parts, List.drop_zero, Nat.zero_add, Nat.reduceAdd] at hp
    refine ⟨⟨x0, x1, x2, x3⟩, ⟨_, _, _, _, hp.symm, g0, g1, g2, g3⟩, ?_⟩
    simp only [List.sum_cons, List.sum_nil] at h2
    simp only [GHeld.size] at *
    omega
end Go.Proofs.Ytfagejfcibgigaa
