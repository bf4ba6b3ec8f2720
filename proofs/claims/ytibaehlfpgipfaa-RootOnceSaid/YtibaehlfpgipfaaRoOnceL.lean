/- ROOT: a decision never changes, whoever asks, and however; places are given one by one; who used an elder version than the one ahead is not committed: for all lists of commands. Printed by mac.py. -/
import Derived.Test.YtibaehlfpgipfaaRoOnce
namespace Go.Proofs.Ytibaehlfpgipfaa
open Go.RowKit

namespace rootOnce
theorem walk {m0 m1 : Nat} (W : World) (v0 v1 : Value) (h0 : Arg Try.prog W m0 58 v0) (h1 : Arg Try.prog W m1 59 v1) :
    Calls Try.prog 4 #[v0, v1] W fun e w' => e = .returned (.bool true) ∧ Keep Nix W w' := by
  obtain ⟨a, n, cap, rfl, hr⟩ := h0.slice Try.underlying58
  obtain ⟨ls, hl, -⟩ := Red.toList (sz := 27) (by' := 400) (R := rGOp) GOp.size Try.underlying58 (by kernel_rfl) (by kernel_rfl) (by decide) (by decide) (fun h => redGOp h) hr
  obtain ⟨rfl, -, -⟩ := rList_len hl
  obtain ⟨a1, n1, cap1, rfl, hr1⟩ := h1.slice Try.underlying59
  obtain ⟨asks, hl1, -⟩ := Red.toList (sz := 25) (by' := 368) (R := rGCommand) GCommand.size Try.underlying59 (by kernel_rfl) (by kernel_rfl) (by decide) (by decide) (fun h => redGCommand h) hr1
  obtain ⟨rfl, -, -⟩ := rList_len hl1
  exact once_walk W a a1 cap cap1 ls asks hl hl1
end rootOnce
end Go.Proofs.Ytibaehlfpgipfaa
