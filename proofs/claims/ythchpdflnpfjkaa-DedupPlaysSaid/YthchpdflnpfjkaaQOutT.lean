/- THE WALKS of the reference's writer on lists and structs. Printed by gen5.py. -/
import Derived.Test.YthchpdflnpfjkaaQPut
namespace Go.Proofs.Ythchpdflnpfjkaa
open Go.RowKit


/-- What a function that writes one thing ends with. -/
def Made (out : List UInt8) (w : World) (e : Ending) (w' : World) : Prop := ∃ a cap, e = .returned (.slice a out.length cap) ∧ w'.ownsRow w.heap.size 5 1 (.slice a out.length cap) out.length (out.map bv) ∧ Keep Nix w w'
theorem owned_up {w : World} {base base' : Nat} {e sz : Nat} {v : Value} {n : Nat} {xs : List Value} (h : w.ownsRow base e sz v n xs) (hb : ∀ b, v.ownBlock = some b → base' ≤ b) : w.ownsRow base' e sz v n xs := by
  refine ⟨h.1, ?_⟩
  rcases h.2 with hn | ⟨g, cap, cur, rfl, hb', rest⟩
  · exact .inl hn
  · exact .inr ⟨g, cap, cur, rfl, hb _ rfl, rest⟩
/-- The end of a function that made a writer. -/
theorem made_of {w w0 w' : World} {r : Nat} {g' : Option Nat} {out : List UInt8} {a : Option Addr} {cap : Nat} (hr : w.heap.size ≤ r) (k : Keep Nix w w0) (c : Chain r w0 none w' g')
    (own : w'.ownsRow 0 5 1 (.slice a out.length cap) out.length (out.map bv)) (hg : (Value.slice a out.length cap).ownBlock = g') : Made out w (.returned (.slice a out.length cap)) w' :=
  ⟨a, cap, rfl, owned_up own (fun b hb => by
      have := c.new b (hg.symm.trans hb)
      rcases this with h | h
      · exact absurd h (by simp)
      · exact Nat.le_trans k.size h), k.then c.keep (fun i hi hs => by
      rcases hs with rfl | hs
      · omega
      · exact absurd hs (by simp))⟩
end Go.Proofs.Ythchpdflnpfjkaa
