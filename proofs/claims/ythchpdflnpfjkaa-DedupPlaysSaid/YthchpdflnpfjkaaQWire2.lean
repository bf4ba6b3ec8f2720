/- THE WALKS of package wire's writer, and of the reference's: texts, numbers with a sign, values. -/
import Derived.Test.YthchpdflnpfjkaaQWire
namespace Go.Proofs.Ythchpdflnpfjkaa
open Go.RowKit

theorem rInt_cell {k : IntKind} {w w' : World} {p : Nat → Prop} {a : Option Addr} {n cap : Nat} {l : List Int} {S : Nat → Prop} (h : rList (rInt k) w p [.slice a n cap] l) (kk : Keep S w w') (hp : ∀ b, p b → ¬ S b) (i : Nat) (hi : i < l.length) :
    ∃ b off, a = some ⟨b, off, none⟩ ∧ w'.cell? ⟨b, off + i, none⟩ = some (.int k l[i]) ∧ (Lit.int k l[i]).wf = true := by
  obtain ⟨b, off, cap', c, h1, h2, h3, ⟨rfl, h4⟩, h5⟩ := rList_at (rInt_lawful k) (by decide) h i hi
  simp only [List.cons.injEq, Value.slice.injEq, and_true] at h1
  have := h5 0 _ rfl
  rw [Nat.mul_one, Nat.add_zero] at this
  exact ⟨b, off, h1.1, (kk.cell (p := ⟨b, off + i, none⟩) h3 (hp b h2)).trans this, h4⟩
theorem take_flat {α : Type} (f : α → List UInt8) (l : List α) (k : Nat) (h : k < l.length) : (l.take (k + 1)).flatMap f = (l.take k).flatMap f ++ f l[k] := by
  rw [List.take_succ_eq_append_getElem h, List.flatMap_append]; simp
theorem take_flat_len {α : Type} (f : α → List UInt8) (l : List α) (k : Nat) (h : k < l.length) : ((l.take k).flatMap f).length + (f l[k]).length ≤ (l.flatMap f).length := by
  conv => rhs; rw [← List.take_append_drop (k + 1) l]
  rw [List.flatMap_append, take_flat f l k h]; simp only [List.length_append]; omega
end Go.Proofs.Ythchpdflnpfjkaa
