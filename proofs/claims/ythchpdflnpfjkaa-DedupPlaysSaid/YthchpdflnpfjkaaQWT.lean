/- READINGS of structs whose bytes may be written. Printed by gen12.py. -/
import Derived.Test.YthchpdflnpfjkaaQEnc
namespace Go.Proofs.Ythchpdflnpfjkaa
open Go.RowKit

def wGCall : RD GCall := fun w p cs x => ∃ c0 c1 c2 : List Value, cs = List.flatten [c0, c1, c2] ∧ (rInt .u64) w p c0 x.fClient ∧ (rInt .u64) w p c1 x.fSeq ∧ rBytesW w p c2 x.fData
theorem wGCall_lawful : Lawful wGCall 3 :=
  ⟨fun ⟨c0, c1, c2, h, h0, h1, h2⟩ => by rw [h]; simp only [List.flatten_cons, List.flatten_nil, List.append_nil, List.length_append, (rInt_lawful _).len h0, (rInt_lawful _).len h1, rBytesW_lawful.len h2],
   fun ⟨c0, c1, c2, h, h0, h1, h2⟩ k hs => ⟨c0, c1, c2, h, (rInt_lawful _).keep h0 k hs, (rInt_lawful _).keep h1 k hs, rBytesW_lawful.keep h2 k hs⟩,
   fun ⟨c0, c1, c2, h, h0, h1, h2⟩ hq => ⟨c0, c1, c2, h, (rInt_lawful _).mono h0 hq, (rInt_lawful _).mono h1 hq, rBytesW_lawful.mono h2 hq⟩⟩
theorem wGCall_to {w : World} {p : Nat → Prop} {cs : List Value} {x : GCall} (h : wGCall w p cs x) : rGCall w p cs x := by
  obtain ⟨c0, c1, c2, h, h0, h1, h2⟩ := h
  exact ⟨c0, c1, c2, h, h0, h1, rBytesW_to h2⟩
end Go.Proofs.Ythchpdflnpfjkaa
