/- LOCK: the law LockOrder: its arguments. Printed by mac.py. -/
import Derived.Test.YtfagejfcibgigaaLkOd
namespace Go.Proofs.Ytfagejfcibgigaa
open Go.RowKit Go.Shelf

namespace lockOrder
theorem walk {m0 m1 m2 : Nat} (W : World) (v0 v1 v2 : Value) (h0 : Arg Try.prog W m0 22 v0) (h1 : Arg Try.prog W m1 3 v1) (h2 : Arg Try.prog W m2 28 v2) :
    Calls Try.prog 3 #[v0, v1, v2] W fun e w' => e = .returned (.bool true) ∧ Keep Nix W w' := by
  obtain ⟨a, n, cap, rfl, h5⟩ := h0.slice Try.underlying22
  obtain ⟨l, hl, -⟩ := h5.toList (R := rGHeld) (sz := 4) (by' := 80) (fun x : GHeld => x.size) Try.underlying22 (by kernel_rfl) (by kernel_rfl) (by decide) (by decide) (fun h => redGHeld h)
  obtain ⟨rfl, -, -⟩ := rList_len hl
  obtain ⟨tn, rfl, -⟩ := h1.int Try.underlying3
  obtain ⟨csk, rfl, k⟩ := h2.struct Try.underlying28
  obtain ⟨ask, hk, -⟩ := redGHeld k
  exact order_walk W a cap l tn ask csk hl hk
end lockOrder
end Go.Proofs.Ytfagejfcibgigaa
