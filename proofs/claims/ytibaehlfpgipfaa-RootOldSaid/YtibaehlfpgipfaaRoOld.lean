/- ROOT: a transaction that used the version that is current, or the one ahead, is committed; one that used an elder one, or one that is not yet, is not: for all lists of names and all numbers. Printed by mac.py. -/
import Derived.Test.YtibaehlfpgipfaaRoC
namespace Go.Proofs.Ytibaehlfpgipfaa
open Go.RowKit

namespace rootOld
theorem walk {m0 m1 m2 : Nat} (W : World) (v0 v1 v2 : Value) (h0 : Arg Try.prog W m0 22 v0) (h1 : Arg Try.prog W m1 3 v1) (h2 : Arg Try.prog W m2 3 v2) :
    Calls Try.prog 3 #[v0, v1, v2] W fun e w' => e = .returned (.bool true) ∧ Keep Nix W w' := by
  obtain ⟨a, n, cap, rfl, hr⟩ := h0.slice Try.underlying22
  obtain ⟨ls, hl, -⟩ := Red.toList (sz := 1) (by' := 16) (R := rStr) (fun x => x.length + 1) Try.underlying22 (by kernel_rfl) (by kernel_rfl) (by decide) (by decide) (fun h => Red.toStr Try.underlying9 h) hr
  obtain ⟨a', c', css, he, -, -, -, hf, -⟩ := id hl
  simp only [List.cons.injEq, Value.slice.injEq, and_true] at he
  obtain ⟨rfl, rfl, rfl⟩ := he
  obtain ⟨x, rfl, -⟩ := h1.int Try.underlying3
  obtain ⟨y, rfl, -⟩ := h2.int Try.underlying3
  exact old_walk W a cap ls x y hl hf
end rootOld
end Go.Proofs.Ytibaehlfpgipfaa
