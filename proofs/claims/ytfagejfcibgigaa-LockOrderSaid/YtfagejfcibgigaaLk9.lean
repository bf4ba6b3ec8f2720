/- LOCK: the nil table: Get. Printed by mac.py. -/
import Derived.Test.YtfagejfcibgigaaLk7
namespace Go.Proofs.Ytfagejfcibgigaa
open Go.RowKit

set_option maxRecDepth 100000 in
theorem get_nil (k : Int) (w : World) : Calls Try.prog 24 #[.pointer none, .int .u64 k] w fun e w' => e = .returned (.tuple #[.agg #[.int .u64 0, .slice none 0 0, .slice none 0 0, .slice none 0 0], .bool false]) ∧ Keep Nix w w' := by
  have hinfo : (Try.prog.info? 28).map (·.size) = some 4 := by kernel_rfl
  have kk : Keep Nix w (w.alloc (.cells #[.int .u64 0, .slice none 0 0, .slice none 0 0, .slice none 0 0] 28)) := (Keep.refl Nix w).alloc _
  have row : (w.alloc (.cells #[.int .u64 0, .slice none 0 0, .slice none 0 0, .slice none 0 0] 28)).heap[w.heap.size]? = some (.cells #[.int .u64 0, .slice none 0 0, .slice none 0 0, .slice none 0 0] 28 (0, 0)) := heap_alloc_new _ _
  go_enter Try.func24, Try.ntmps24
  go_wp2_with fail
  refine bodyPost_ret (results_cell_row2 (by rfl) _ _ _ _ _ _ _ (by rfl) row Try.underlying28 (by rfl) hinfo) rfl ?_
  exact ⟨rfl, kk⟩
end Go.Proofs.Ytfagejfcibgigaa
