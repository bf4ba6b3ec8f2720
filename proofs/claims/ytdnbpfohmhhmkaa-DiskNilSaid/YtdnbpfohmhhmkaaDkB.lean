/- DISK: the law DiskNil. Printed by mac.py. -/
import Derived.Test.YtdnbpfohmhhmkaaDkA
namespace Go.Proofs.Ytdnbpfohmhhmkaa
open Go.RowKit

namespace diskNil
set_option maxRecDepth 100000 in
set_option maxHeartbeats 2000000 in
theorem walk {m0 m1 m2 : Nat} (W : World) (v0 v1 v2 : Value) (h0 : Arg Try.prog W m0 3 v0) (_h1 : Arg Try.prog W m1 22 v1) (_h2 : Arg Try.prog W m2 34 v2) :
    Calls Try.prog 6 #[v0, v1, v2] W fun e w' => e = .returned (.bool true) ∧ Keep Nix W w' := by
  obtain ⟨n, rfl, -⟩ := h0.int Try.underlying3
  go_enter Try.func6, Try.ntmps6
  go_wp2_with fail
  go_fit (read_nil n _)
  rintro e w' ⟨rfl, rfl⟩
  go_wp2_with fail
  go_fit (dkawake_c _)
  rintro e w1 ⟨rfl, kk⟩
  go_wp2_with fail
  go_fit (write_nil _ n _)
  rintro e w' ⟨rfl, rfl⟩
  go_wp2_with fail
  go_fit (flush_nil _)
  rintro e w' ⟨rfl, rfl⟩
  go_wp2_with fail
  go_fit (arm_nil n _)
  rintro e w' ⟨rfl, rfl⟩
  go_wp2_with fail
  go_fit (crash_nil _ _)
  rintro e w' ⟨rfl, rfl⟩
  go_wp2_with fail
  go_fit (start_nil _)
  rintro e w' ⟨rfl, rfl⟩
  go_wp2_with fail
  go_fit (down_nil _)
  rintro e w' ⟨rfl, rfl⟩
  go_wp2_with fail
  go_fit (waiting_nil _)
  rintro e w' ⟨rfl, rfl⟩
  go_wp2_with fail
  go_fit (size_nil _)
  rintro e w' ⟨rfl, rfl⟩
  go_wp2_with fail
  go_fit (fork_nil _)
  rintro e w' ⟨rfl, rfl⟩
  go_wp2_with fail
  go_ret
  exact ⟨rfl, kk⟩
end diskNil
end Go.Proofs.Ytdnbpfohmhhmkaa
