/- THE BYTES of each struct of package api, and its cells written out. Printed by gen3.py. -/
import Derived.Test.YthchpdflnpfjkaaQTypes
import Derived.Test.YthchpdflnpfjkaaQWr
import Derived.Test.YthchpdflnpfjkaaQLst
namespace Go.Proofs.Ythchpdflnpfjkaa
open Go.RowKit

def encGCall (x : GCall) : List UInt8 := encU x.fClient ++ encU x.fSeq ++ textB x.fData
theorem encGCall_len (x : GCall) : (encGCall x).length ≤ 10 * x.size := by
  simp only [encGCall, List.length_append, GCall.size]
  have h0 := encU_len x.fClient
  have h1 := encU_len x.fSeq
  have h2 := textB_len x.fData
  omega
theorem rGCall_open {w : World} {p : Nat → Prop} {cs : List Value} {x : GCall} (h : rGCall w p cs x) : ∃ aData cData, cs = [.int .u64 x.fClient, .int .u64 x.fSeq, .slice aData x.fData.length cData] ∧ isU64 x.fClient ∧ isU64 x.fSeq ∧ (Lies w p aData (x.fData.map bv) ∧ x.fData.length ≤ cData ∧ x.fData.length ≤ far) ∧ True := by
  obtain ⟨k0, k1, k2, rfl, h0, h1, h2⟩ := h
  obtain ⟨rfl, f0⟩ := h0
  obtain ⟨rfl, f1⟩ := h1
  obtain ⟨aData, cData, rfl, f2⟩ := h2
  exact ⟨aData, cData, rfl, isU64_wf f0, isU64_wf f1, f2, trivial⟩
end Go.Proofs.Ythchpdflnpfjkaa
