/- FAULTS: errors.Unwrap, what comes of a code. Printed by mac.py. -/
import Derived.Test.YtnfjplchliehcaaDoorFt3
namespace Go.Proofs.YtnfjplchliehcaaDoor
open Go.RowKit Go.Extern.Stop Go.Stop Go.Extern

theorem nU_E (v : Value) (xT : TypeId) (w : World) : (Instr.typeAssert (.iface 22 v) xT 71 true).run Tryd.prog w = .ok (.tuple #[.nilIface, .bool false]) w := run_typeAssert_lacksB Tryd.underlying71 (by kernel_rfl) (by kernel_rfl) v xT w
theorem nU_S (v : Value) (xT : TypeId) (w : World) : (Instr.typeAssert (.iface 68 v) xT 71 true).run Tryd.prog w = .ok (.tuple #[.nilIface, .bool false]) w := run_typeAssert_lacksB Tryd.underlying71 (by kernel_rfl) (by kernel_rfl) v xT w
theorem nU_F (v : Value) (xT : TypeId) (w : World) : (Instr.typeAssert (.iface 29 v) xT 71 true).run Tryd.prog w = .ok (.tuple #[.iface 29 v, .bool true]) w := run_typeAssert_hasB Tryd.underlying71 (by kernel_rfl) v xT w
theorem nA_E (v : Value) (xT : TypeId) (w : World) : (Instr.typeAssert (.iface 22 v) xT 82 true).run Tryd.prog w = .ok (.tuple #[.nilIface, .bool false]) w := run_typeAssert_lacksB Tryd.underlying82 (by kernel_rfl) (by kernel_rfl) v xT w
theorem nA_S (v : Value) (xT : TypeId) (w : World) : (Instr.typeAssert (.iface 68 v) xT 82 true).run Tryd.prog w = .ok (.tuple #[.nilIface, .bool false]) w := run_typeAssert_lacksB Tryd.underlying82 (by kernel_rfl) (by kernel_rfl) v xT w
theorem nA_F (v : Value) (xT : TypeId) (w : World) : (Instr.typeAssert (.iface 29 v) xT 82 true).run Tryd.prog w = .ok (.tuple #[.nilIface, .bool false]) w := run_typeAssert_lacksB Tryd.underlying82 (by kernel_rfl) (by kernel_rfl) v xT w
theorem nL_S (v : Value) (xT : TypeId) (w : World) : (Instr.typeAssert (.iface 68 v) xT 85 true).run Tryd.prog w = .ok (.tuple #[.nilIface, .bool false]) w := run_typeAssert_lacksB Tryd.underlying85 (by kernel_rfl) (by kernel_rfl) v xT w
theorem nL_E (v : Value) (xT : TypeId) (w : World) : (Instr.typeAssert (.iface 22 v) xT 85 true).run Tryd.prog w = .ok (.tuple #[.nilIface, .bool false]) w := run_typeAssert_lacksB Tryd.underlying85 (by kernel_rfl) (by kernel_rfl) v xT w
theorem unwE_c (c : Int) (w : World) : Calls Tryd.prog 15 #[.iface 22 (.int .i64 c)] w fun e w' => e = .returned .nilIface ∧ w = w' := by
  have h := nU_E
  go_enter Tryd.func15, Tryd.ntmps15
  go_wp2
  go_ret
  exact ⟨rfl, rfl⟩
theorem unwS_c (a : Addr) (w : World) : Calls Tryd.prog 15 #[.iface 68 (.pointer (some a))] w fun e w' => e = .returned .nilIface ∧ w = w' := by
  have h := nU_S
  go_enter Tryd.func15, Tryd.ntmps15
  go_wp2
  go_ret
  exact ⟨rfl, rfl⟩
theorem unwF_c (b : Nat) (vs vc : Value) (w : World) (row : RowIs w b 54 [vs, vc]) : Calls Tryd.prog 15 #[.iface 29 (.pointer (some ⟨b, 0, none⟩))] w fun e w' => e = .returned vc ∧ w = w' := by
  have h := nU_F
  have hm := methU
  go_enter Tryd.func15, Tryd.ntmps15
  go_wp2_with fail
  go_fit (unwrap_c b vs vc w row)
  rintro e w' ⟨rfl, rfl⟩
  go_wp2_with fail
  go_ret
  exact ⟨rfl, rfl⟩
def kindF (c : Int) : Int := if c = 0 then 0 else if c = 19 ∨ c = 20 ∨ c = 3 then 1 else if c = 12 ∨ c = 13 ∨ c = 14 ∨ c = 15 ∨ c = 21 ∨ c = 16 then 2 else 3
set_option maxHeartbeats 4000000 in
theorem kind_c (c : Int) (w : World) : Calls Tryd.prog 31 #[.int .i64 c] w fun e w' => e = .returned (.int .i64 (kindF c)) ∧ w = w' := by
  rcases (show (c = 0 ∨ c = 19 ∨ c = 20 ∨ c = 3 ∨ c = 12 ∨ c = 13 ∨ c = 14 ∨ c = 15 ∨ c = 21 ∨ c = 16) ∨ (c ≠ 0 ∧ c ≠ 19 ∧ c ≠ 20 ∧ c ≠ 3 ∧ c ≠ 12 ∧ c ≠ 13 ∧ c ≠ 14 ∧ c ≠ 15 ∧ c ≠ 21 ∧ c ≠ 16) by omega) with (rfl | rfl | rfl | rfl | rfl | rfl | rfl | rfl | rfl | rfl) | ⟨h1, h2, h3, h4, h5, h6, h7, h8, h9, h10⟩
  · have HK : Hid (kindF 0 = 0) := (by show kindF _ = _; decide)
    rw [HK.out]
    clear HK
    go_enter Tryd.func31, Tryd.ntmps31
    go_wp2
    go_ret
    exact ⟨rfl, rfl⟩
  · have HK : Hid (kindF 19 = 1) := (by show kindF _ = _; decide)
    rw [HK.out]
    clear HK
    go_enter Tryd.func31, Tryd.ntmps31
    go_wp2
    go_ret
    exact ⟨rfl, rfl⟩
  · have HK : Hid (kindF 20 = 1) := (by show kindF _ = _; decide)
    rw [HK.out]
    clear HK
    go_enter Tryd.func31, Tryd.ntmps31
    go_wp2
    go_ret
    exact ⟨rfl, rfl⟩
  · have HK : Hid (kindF 3 = 1) := (by show kindF _ = _; decide)
    rw [HK.out]
    clear HK
    go_enter Tryd.func31, Tryd.ntmps31
    go_wp2
    go_ret
    exact ⟨rfl, rfl⟩
  · have HK : Hid (kindF 12 = 2) := (by show kindF _ = _; decide)
    rw [HK.out]
    clear HK
    go_enter Tryd.func31, Tryd.ntmps31
    go_wp2
    go_ret
    exact ⟨rfl, rfl⟩
  · have HK : Hid (kindF 13 = 2) := (by show kindF _ = _; decide)
    rw [HK.out]
    clear HK
    go_enter Tryd.func31, Tryd.ntmps31
    go_wp2
    go_ret
    exact ⟨rfl, rfl⟩
  · have HK : Hid (kindF 14 = 2) := (by show kindF _ = _; decide)
    rw [HK.out]
    clear HK
    go_enter Tryd.func31, Tryd.ntmps31
    go_wp2
    go_ret
    exact ⟨rfl, rfl⟩
  · have HK : Hid (kindF 15 = 2) := (by show kindF _ = _; decide)
    rw [HK.out]
    clear HK
    go_enter Tryd.func31, Tryd.ntmps31
    go_wp2
    go_ret
    exact ⟨rfl, rfl⟩
  · have HK : Hid (kindF 21 = 2) := (by show kindF _ = _; decide)
    rw [HK.out]
    clear HK
    go_enter Tryd.func31, Tryd.ntmps31
    go_wp2
    go_ret
    exact ⟨rfl, rfl⟩
  · have HK : Hid (kindF 16 = 2) := (by show kindF _ = _; decide)
    rw [HK.out]
    clear HK
    go_enter Tryd.func31, Tryd.ntmps31
    go_wp2
    go_ret
    exact ⟨rfl, rfl⟩
  · have HK : kindF c = 3 := by unfold kindF; rw [if_neg h1, if_neg (by omega), if_neg (by omega)]
    rw [HK]
    clear HK
    go_enter Tryd.func31, Tryd.ntmps31
    go_wp2
    go_ret
    exact ⟨rfl, rfl⟩
set_option maxHeartbeats 4000000 in
theorem rAgain_c (c : Int) (w : World) : Calls Tryd.prog 22 #[.int .i64 c] w fun e w' => e = .returned (.int .i64 (kindF c)) ∧ w = w' := by
  rcases (show (c = 0 ∨ c = 19 ∨ c = 20 ∨ c = 3 ∨ c = 12 ∨ c = 13 ∨ c = 14 ∨ c = 15 ∨ c = 21 ∨ c = 16) ∨ (c ≠ 0 ∧ c ≠ 19 ∧ c ≠ 20 ∧ c ≠ 3 ∧ c ≠ 12 ∧ c ≠ 13 ∧ c ≠ 14 ∧ c ≠ 15 ∧ c ≠ 21 ∧ c ≠ 16) by omega) with (rfl | rfl | rfl | rfl | rfl | rfl | rfl | rfl | rfl | rfl) | ⟨h1, h2, h3, h4, h5, h6, h7, h8, h9, h10⟩
  · have HK : Hid (kindF 0 = 0) := (by show kindF _ = _; decide)
    rw [HK.out]
    clear HK
    go_enter Tryd.func22, Tryd.ntmps22
    go_wp2
    go_ret
    exact ⟨rfl, rfl⟩
  · have HK : Hid (kindF 19 = 1) := (by show kindF _ = _; decide)
    rw [HK.out]
    clear HK
    go_enter Tryd.func22, Tryd.ntmps22
    go_wp2
    go_ret
    exact ⟨rfl, rfl⟩
  · have HK : Hid (kindF 20 = 1) := (by show kindF _ = _; decide)
    rw [HK.out]
    clear HK
    go_enter Tryd.func22, Tryd.ntmps22
    go_wp2
    go_ret
    exact ⟨rfl, rfl⟩
  · have HK : Hid (kindF 3 = 1) := (by show kindF _ = _; decide)
    rw [HK.out]
    clear HK
    go_enter Tryd.func22, Tryd.ntmps22
    go_wp2
    go_ret
    exact ⟨rfl, rfl⟩
  · have HK : Hid (kindF 12 = 2) := (by show kindF _ = _; decide)
    rw [HK.out]
    clear HK
    go_enter Tryd.func22, Tryd.ntmps22
    go_wp2
    go_ret
    exact ⟨rfl, rfl⟩
  · have HK : Hid (kindF 13 = 2) := (by show kindF _ = _; decide)
    rw [HK.out]
    clear HK
    go_enter Tryd.func22, Tryd.ntmps22
    go_wp2
    go_ret
    exact ⟨rfl, rfl⟩
  · have HK : Hid (kindF 14 = 2) := (by show kindF _ = _; decide)
    rw [HK.out]
    clear HK
    go_enter Tryd.func22, Tryd.ntmps22
    go_wp2
    go_ret
    exact ⟨rfl, rfl⟩
  · have HK : Hid (kindF 15 = 2) := (by show kindF _ = _; decide)
    rw [HK.out]
    clear HK
    go_enter Tryd.func22, Tryd.ntmps22
    go_wp2
    go_ret
    exact ⟨rfl, rfl⟩
  · have HK : Hid (kindF 21 = 2) := (by show kindF _ = _; decide)
    rw [HK.out]
    clear HK
    go_enter Tryd.func22, Tryd.ntmps22
    go_wp2
    go_ret
    exact ⟨rfl, rfl⟩
  · have HK : Hid (kindF 16 = 2) := (by show kindF _ = _; decide)
    rw [HK.out]
    clear HK
    go_enter Tryd.func22, Tryd.ntmps22
    go_wp2
    go_ret
    exact ⟨rfl, rfl⟩
  · have HK : kindF c = 3 := by unfold kindF; rw [if_neg h1, if_neg (by omega), if_neg (by omega)]
    rw [HK]
    clear HK
    go_enter Tryd.func22, Tryd.ntmps22
    go_wp2
    go_ret
    exact ⟨rfl, rfl⟩
theorem kindF_ways (c : Int) : kindF c = 0 ∨ kindF c = 1 ∨ kindF c = 2 ∨ kindF c = 3 := by
  unfold kindF; split
  · exact .inl rfl
  · split
    · exact .inr (.inl rfl)
    · split
      · exact .inr (.inr (.inl rfl))
      · exact .inr (.inr (.inr rfl))
set_option maxHeartbeats 4000000 in
theorem again_c (c : Int) (w : World) : Calls Tryd.prog 21 #[.int .i64 c] w fun e w' => e = .returned (.int .i64 (kindF c)) ∧ w = w' := by
  have hk := kind_c c
  rcases kindF_ways c with h | h | h | h
  all_goals
    rw [h] at hk ⊢
    clear h
    go_enter Tryd.func21, Tryd.ntmps21
    go_wp2_with fail
    go_fit (hk _)
    rintro e w' ⟨rfl, rfl⟩
    go_wp2_with fail
    go_ret
    exact ⟨rfl, rfl⟩
end Go.Proofs.YtnfjplchliehcaaDoor
