/- LOCK: the law LockSides: its arguments. Printed by mac.py. -/
import Derived.Test.YtfagejfcibgigaaLkSd
namespace Go.Proofs.Ytfagejfcibgigaa
open Go.RowKit Go.Shelf

namespace lockSides
theorem walk {m0 m1 m2 : Nat} (W : World) (v0 v1 v2 : Value) (h0 : Arg Try.prog W m0 28 v0) (h1 : Arg Try.prog W m1 28 v1) (h2 : Arg Try.prog W m2 42 v2) :
    Calls Try.prog 4 #[v0, v1, v2] W fun e w' => e = .returned (.bool true) ∧ Keep Nix W w' := by
  obtain ⟨csa, rfl, k⟩ := h0.struct Try.underlying28
  obtain ⟨a, ha, -⟩ := redGHeld k
  obtain ⟨csb, rfl, k⟩ := h1.struct Try.underlying28
  obtain ⟨b, hb, -⟩ := redGHeld k
  obtain ⟨ak, cap, l, rfl, hl, hc, hf⟩ := lockNil.bytes_arg h2
  exact sides_walk W a b csa csb ak cap l ha hb hl hc hf
end lockSides
end Go.Proofs.Ytfagejfcibgigaa
