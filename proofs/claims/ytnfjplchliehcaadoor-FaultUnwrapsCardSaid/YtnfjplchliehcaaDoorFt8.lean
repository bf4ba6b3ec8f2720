/- FAULTS: the law FaultAgain. Printed by mac.py. -/
import Derived.Test.YtnfjplchliehcaaDoorFt7
namespace Go.Proofs.YtnfjplchliehcaaDoor
open Go.RowKit Go.Extern.Stop Go.Stop Go.Extern

theorem toE_E (v : Value) (w : World) : (Instr.typeAssert (.iface 22 v) 26 22 true).run Tryd.prog w = .ok (.tuple #[v, .bool true]) w := by kernel_rfl
theorem toE_S (v : Value) (w : World) : (Instr.typeAssert (.iface 68 v) 26 22 true).run Tryd.prog w = .ok (.tuple #[.int .i64 0, .bool false]) w := by kernel_rfl
set_option maxRecDepth 100000 in
theorem isF_nil (c : Int) (w : World) : Calls Tryd.prog 12 #[.pointer none, .iface 22 (.int .i64 c)] w fun e w' => e = .returned (.bool false) ∧ w = w' := by
  have h1 := toE_E
  have h2 := toE_S
  go_enter Tryd.func12, Tryd.ntmps12
  go_wp2
  go_ret
  exact ⟨rfl, rfl⟩
set_option maxRecDepth 100000 in
theorem isF_c (E : Er) (b : Nat) (c : Int) (w : World) (h : IsEr w E (.iface 29 (.pointer (some ⟨b, 0, none⟩)))) (hl : Laid w) : Calls Tryd.prog 12 #[.pointer (some ⟨b, 0, none⟩), .iface 22 (.int .i64 c)] w fun e w' => e = .returned (.bool (E.codeOf == c)) ∧ Keep Nix w w' := by
  have h1 := toE_E
  have h2 := toE_S
  go_enter Tryd.func12, Tryd.ntmps12
  go_wp2_with fail
  go_fit (code_c E _ w h hl)
  rintro e w' ⟨rfl, k⟩
  go_wp2_with fail
  go_ret
  exact ⟨rfl, k⟩
set_option maxRecDepth 100000 in
theorem isF_other (b : Nat) (a : Addr) (w : World) : Calls Tryd.prog 12 #[.pointer (some ⟨b, 0, none⟩), .iface 68 (.pointer (some a))] w fun e w' => e = .returned (.bool false) ∧ w = w' := by
  have h1 := toE_E
  have h2 := toE_S
  go_enter Tryd.func12, Tryd.ntmps12
  go_wp2
  go_ret
  exact ⟨rfl, rfl⟩
theorem where_nil (w : World) : Calls Tryd.prog 19 #[.nilIface] w fun e w' => e = .returned (.slice none 0 0) ∧ w = w' := by
  go_enter Tryd.func19, Tryd.ntmps19
  go_wp2
  refine wp_loop_rounds 1 ?_
  rw [rounds_succ]
  go_wp2
  go_ret
  exact ⟨rfl, rfl⟩
namespace faultAgain
set_option maxRecDepth 100000 in
set_option maxHeartbeats 2000000 in
theorem walk {m0 : Nat} (W : World) (v0 : Value) (h0 : Arg Tryd.prog W m0 22 v0) (hg : W.cell? ⟨0, 0, none⟩ = some (.iface 78 (.agg #[.pointer (some ⟨1, 26, none⟩)]))) :
    Calls Tryd.prog 6 #[v0] W fun e w' => e = .returned (.bool true) ∧ Keep Nix W w' := by
  obtain ⟨c, rfl, -⟩ := h0.int Tryd.underlying22
  have hl := Laid.of hg
  clear hg h0
  go_enter Tryd.func6, Tryd.ntmps6
  go_wp2_with fail
  go_fit (ftawake_c W hl)
  rintro e w1 ⟨rfl, k⟩
  go_wp2_with fail
  go_fit (again_c c w1)
  rintro e w' ⟨rfl, rfl⟩
  go_wp2_with fail
  go_fit (rAgain_c c w1)
  rintro e w' ⟨rfl, rfl⟩
  go_wp2_with fail
  go_fit (errorF_nil w1)
  rintro e w' ⟨rfl, rfl⟩
  go_wp2_with fail
  go_fit (unwrapF_nil w1)
  rintro e w' ⟨rfl, rfl⟩
  go_wp2_with fail
  go_fit (isF_nil c w1)
  rintro e w' ⟨rfl, rfl⟩
  go_wp2_with fail
  go_fit (code_nil w1)
  rintro e w' ⟨rfl, rfl⟩
  go_wp2_with fail
  go_fit (where_nil w1)
  rintro e w' ⟨rfl, rfl⟩
  go_wp2_with fail
  go_fit (wrap_nil [120] w1)
  rintro e w' ⟨rfl, rfl⟩
  go_wp2_with fail
  go_ret
  exact ⟨rfl, k⟩
end faultAgain
end Go.Proofs.YtnfjplchliehcaaDoor
