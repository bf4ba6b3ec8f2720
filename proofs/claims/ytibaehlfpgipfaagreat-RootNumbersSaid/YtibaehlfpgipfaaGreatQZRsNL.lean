/- ROOT: the law RootNumbers: its arguments. Printed by mac.py. -/
import Derived.Test.YtibaehlfpgipfaaGreatQZRsN
namespace Go.Proofs.YtibaehlfpgipfaaGreat
open Go.RowKit
theorem Keep.below {w w' : World} (h : Keep Nix w w') : Below w.heap.size w w' := ⟨h.os, h.tape, h.output, h.size, fun k hk => h.block k hk id⟩
namespace rootNumbers
theorem walk {m0 : Nat} (W : World) (v0 : Value) (h0 : Arg Tryz.prog W m0 22 v0) :
  Calls Tryz.prog 3 #[v0] W fun e w' => e = .returned (.bool true) ∧ Keep Nix W w' := by
 obtain ⟨a, n, cap, rfl, hr⟩ := h0.slice Tryz.underlying22
 obtain ⟨ls, hl, -⟩ := Red.toList (sz := 27) (by' := 400) (R := rGOp) GOp.size Tryz.underlying22 (by kernel_rfl) (by kernel_rfl) (by decide) (by decide) (fun h => redGOp h) hr
 obtain ⟨rfl, -, -⟩ := rList_len hl
 exact numbers_walk W a cap ls hl
end rootNumbers
end Go.Proofs.YtibaehlfpgipfaaGreat
