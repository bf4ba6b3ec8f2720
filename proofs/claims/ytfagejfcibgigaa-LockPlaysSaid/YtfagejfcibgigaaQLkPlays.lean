/- LOCK: the law LockPlays: its arguments. Printed by mac.py. -/
import Derived.Test.YtfagejfcibgigaaQLpQ
namespace Go.Proofs.Ytfagejfcibgigaa
open Go.RowKit Go.Shelf

namespace lockPlays
theorem bytes_argP {m : Nat} {W : World} {v : Value} (h : Arg Try.prog W m 42 v) : ∃ (a : Option Addr) (cap : Nat) (l : List UInt8), v = .slice a l.length cap ∧ Lies W (· < W.heap.size) a (l.map bv) ∧ l.length ≤ cap ∧ l.length ≤ far := by
  obtain ⟨a, n, cap, rfl, k⟩ := h.slice Try.underlying42
  obtain ⟨l, ⟨a', c', e, h1⟩, -⟩ := Red.toBytes Try.underlying42 Try.underlying5 cells5 bytes5 k
  cases e
  exact ⟨_, _, l, rfl, h1⟩
theorem walk {m0 m1 m2 m3 : Nat} (W : World) (v0 v1 v2 v3 : Value) (h0 : Arg Try.prog W m0 51 v0) (h1 : Arg Try.prog W m1 42 v1) (h2 : Arg Try.prog W m2 46 v2) (h3 : Arg Try.prog W m3 28 v3) :
    Calls Try.prog 5 #[v0, v1, v2, v3] W fun e w' => e = .returned (.bool true) ∧ Keep Nix W w' := by
  obtain ⟨a, n, cap, rfl, h5⟩ := h0.slice Try.underlying51
  obtain ⟨l, hl, -⟩ := h5.toList (R := rGOp) (sz := 5) (by' := 88) (fun x : GOp => x.size) Try.underlying51 (by kernel_rfl) (by kernel_rfl) (by decide) (by decide) (fun h => redGOp h)
  obtain ⟨rfl, -, -⟩ := rList_len hl
  obtain ⟨ak, ck, key, rfl, hk, -, -⟩ := bytes_argP h1
  obtain ⟨csS, rfl, k⟩ := h2.struct Try.underlying46
  obtain ⟨s, hs, -⟩ := redGSpan k
  obtain ⟨csA, rfl, k⟩ := h3.struct Try.underlying28
  obtain ⟨ask, ha, -⟩ := redGHeld k
  exact plays_walk W a cap l ak ck key s csS ask csA hl hk hs ha
end lockPlays
end Go.Proofs.Ytfagejfcibgigaa
