/- PAGES: a nil map. Printed by mac.py. -/
import Derived.Test.YthkocgpbpgfocaaCmp
import Derived.Test.YthkocgpbpgfocaaLst
namespace Go.Proofs.Ythkocgpbpgfocaa
open Go.RowKit

theorem find_nil (v : Value) (w : World) : Calls Try.prog 31 #[.pointer none, v] w fun e w' => e = .returned (.tuple #[.int .i64 0, .int .i64 0, .bool false]) ∧ w = w' := by
  go_enter Try.func31, Try.ntmps31
  go_wp2
  go_ret3
  exact ⟨rfl, rfl⟩
theorem drop_nil (v : Value) (w : World) : Calls Try.prog 20 #[.pointer none, v] w fun e w' => e = .returned (.bool false) ∧ w = w' := by
  go_enter Try.func20, Try.ntmps20
  go_wp2_with fail
  go_fit (find_nil v w)
  rintro e w' ⟨rfl, rfl⟩
  go_wp2_with fail
  go_ret
  exact ⟨rfl, rfl⟩
theorem get_nil (v : Value) (w : World) : Calls Try.prog 19 #[.pointer none, v] w fun e w' => e = .returned (.tuple #[.agg #[.slice none 0 0, .slice none 0 0, .int .i64 0], .bool false]) ∧ Keep Nix w w' := by
  have row := RowIs.alloc w #[.slice none 0 0, .slice none 0 0, .int .i64 0] 29
  have kk : Keep Nix w (w.alloc (.cells #[.slice none 0 0, .slice none 0 0, .int .i64 0] 29)) := (Keep.refl Nix w).alloc _
  have hinfo : (Try.prog.info? 29).map (·.size) = some 3 := by kernel_rfl
  go_enter Try.func19, Try.ntmps19
  go_wp2_with fail
  go_fit (find_nil v _)
  rintro e w' ⟨rfl, rfl⟩
  go_wp2_with fail
  refine bodyPost_ret (results_cell_row2 (by rfl) _ _ _ _ _ _ _ (by rfl) row Try.underlying29 (by rfl) hinfo) rfl ?_
  exact ⟨rfl, kk⟩
theorem sizes_nil (w : World) : Calls Try.prog 29 #[.pointer none] w fun e w' => e = .returned (.slice none 0 0) ∧ w = w' := by
  go_enter Try.func29, Try.ntmps29
  go_wp2
  go_ret
  exact ⟨rfl, rfl⟩
theorem fork_nil (w : World) : Calls Try.prog 25 #[.pointer none] w fun e w' => e = .returned (.pointer none) ∧ w = w' := by
  go_enter Try.func25, Try.ntmps25
  go_wp2
  go_ret
  exact ⟨rfl, rfl⟩
theorem list_nil (a b : Option Addr) (n m c d : Nat) (w : World) : Calls Try.prog 35 #[.pointer none, .agg #[.slice a n c, .slice b m d]] w fun e w' => e = .returned (.slice none 0 0) ∧ Keep Nix w w' := by
  have kk : Keep Nix w (w.alloc (.cells #[.slice a n c, .slice b m d] 37)) := (Keep.refl Nix w).alloc _
  go_enter Try.func35, Try.ntmps35
  go_wp2
  go_ret
  exact ⟨rfl, kk⟩
theorem len_nil (w : World) : Calls Try.prog 15 #[.pointer none] w fun e w' => e = .returned (.int .i64 0) ∧ w = w' := by
  go_enter Try.func15, Try.ntmps15
  go_wp2_with fail
  go_fit (sizes_nil w)
  rintro e w' ⟨rfl, rfl⟩
  go_wp2_with fail
  refine wp_loop_rounds 1 ?_
  rw [rounds_succ]
  go_wp2
  go_ret
  exact ⟨rfl, rfl⟩
theorem put_nil (a b : Option Addr) (n m c d : Nat) (z : Int) (w : World) : Calls Try.prog 12 #[.pointer none, .agg #[.slice a n c, .slice b m d, .int .i64 z]] w fun e w' => e = .returned (.int .i64 2) ∧ Keep Nix w w' := by
  have kk : Keep Nix w (w.alloc (.cells #[.slice a n c, .slice b m d, .int .i64 z] 29)) := (Keep.refl Nix w).alloc _
  go_enter Try.func12, Try.ntmps12
  go_wp2
  go_ret
  exact ⟨rfl, kk⟩
end Go.Proofs.Ythkocgpbpgfocaa
