/- LOCK: the law LockReads: its arguments. Printed by mac.py. -/
import Derived.Test.YtfagejfcibgigaaLkRd
namespace Go.Proofs.Ytfagejfcibgigaa
open Go.RowKit Go.Shelf

namespace lockReads
theorem walk {m0 m1 m2 : Nat} (W : World) (v0 v1 v2 : Value) (h0 : Arg Try.prog W m0 46 v0) (h1 : Arg Try.prog W m1 42 v1) (h2 : Arg Try.prog W m2 4 v2) :
    Calls Try.prog 7 #[v0, v1, v2] W fun e w' => e = .returned (.bool true) ∧ Keep Nix W w' := by
  obtain ⟨css, rfl, k⟩ := h0.struct Try.underlying46
  obtain ⟨s, hs, -⟩ := redGSpan k
  obtain ⟨a, cap, l, rfl, hl, hc, hf⟩ := lockNil.bytes_arg h1
  obtain ⟨b, rfl⟩ := h2.bool Try.underlying4
  exact reads_walk W s css a cap l b hs hl hc hf
end lockReads
end Go.Proofs.Ytfagejfcibgigaa
