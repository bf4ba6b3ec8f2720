/- ERRORS: errors.Is at two numbers of api.Errno; disk.fine. -/
import Derived.Test.YtdnbpfohmhhmkaaBase
import Derived.LaidEql
import Derived.Stop.Asserts
import Derived.RowKitTokens
namespace Go.Proofs.Ytdnbpfohmhhmkaa
open Go.RowKit Go.Extern.Stop Go.Stop Go.Extern
/-- '==' between two interface values of one integer type. -/
theorem run_equalIn_num {P : Program} (w : World) (d : Nat) {ti tn : TypeId} {ms : Array (String × TypeId)} {i : TypeInfo} {k : IntKind} (a b : Int)
    (hi : P.underlying ti = some (.interface ms)) (hn : P.underlying tn = some (.int k)) (hinfo : P.info? tn = some i) (hcomp : i.comparable = true) :
    (Op.equalIn (d + 2) ti (.iface tn (.int k a)) (.iface tn (.int k b))).run P w = .ok (a == b) w := by
  simp [Op.equalIn, run_underlying hi, run_underlying hn, typeInfo, hinfo, hcomp]
theorem run_eql_num {P : Program} (w : World) {ti tn : TypeId} {ms : Array (String × TypeId)} {i : TypeInfo} {k : IntKind} (a b : Int)
    (hi : P.underlying ti = some (.interface ms)) (hn : P.underlying tn = some (.int k)) (hinfo : P.info? tn = some i) (hcomp : i.comparable = true) :
    (binOp .eql ti (.iface tn (.int k a)) (.iface tn (.int k b))).run P w = .ok (.bool (a == b)) w := by
  simp only [binOp]
  simp [Op.equal, Op.maxDepth, run_equalIn_num w 9998 a b hi hn hinfo hcomp]
set_option maxRecDepth 100000 in
set_option maxHeartbeats 1000000 in
theorem errIs_c (a b : Int) (w : World) : Calls Try.prog 41 #[.iface 24 (.int .i64 a), .iface 24 (.int .i64 b)] w fun e w' => e = .returned (.bool (a == b)) ∧ w = w' := by
  have hT := @run_callFunc_extern Try.prog 46 _ Extern.ReflectliteType.typeOf Try.func46 (by kernel_rfl) (by kernel_rfl) (by kernel_rfl) (by kernel_rfl)
  have tT : ∀ (v : Value) (w : World), (Extern.ReflectliteType.typeOf #[.iface 24 v]).run Try.prog w = .ok (.iface 86 (.agg #[.pointer (some ⟨0, 24, none⟩)])) w := fun v w => by kernel_rfl
  obtain ⟨g, hg, cT⟩ : ∃ g, Extern.find Try.f67 = some g ∧ ∀ w : World, (g #[.agg #[.pointer (some ⟨0, 24, none⟩)]]).run Try.prog w = .ok (.bool true) w := ⟨_, rfl, fun w => by kernel_rfl⟩
  have hC := @run_callFunc_extern Try.prog 67 _ g Try.func67 (by kernel_rfl) (by kernel_rfl) (by kernel_rfl) hg
  clear hg
  have mR : ∀ (v : Value) (w : World), (Go.method 228 86 v "Comparable").run Try.prog w = .ok (67, v) w := fun v w => by kernel_rfl
  obtain ⟨i, hi, hcmp⟩ := Option.map_eq_some_iff.1 (show (Try.prog.info? 24).map (·.comparable) = some true by kernel_rfl)
  have heq := run_eql_num (P := Try.prog) w a b Try.underlying75 Try.underlying24 hi hcmp
  have n1 : ∀ (v : Value) (xT : TypeId) (w : World), (Instr.typeAssert (.iface 24 v) xT 88 true).run Try.prog w = .ok (.tuple #[.nilIface, .bool false]) w := fun v xT w => run_typeAssert_lacksB Try.underlying88 (by kernel_rfl) (by kernel_rfl) v xT w
  have n2 : ∀ (v : Value) (xT : TypeId) (w : World), (Instr.typeAssert (.iface 24 v) xT 90 true).run Try.prog w = .ok (.tuple #[.nilIface, .bool false]) w := fun v xT w => run_typeAssert_lacksB Try.underlying90 (by kernel_rfl) (by kernel_rfl) v xT w
  have n3 : ∀ (v : Value) (xT : TypeId) (w : World), (Instr.typeAssert (.iface 24 v) xT 92 true).run Try.prog w = .ok (.tuple #[.nilIface, .bool false]) w := fun v xT w => run_typeAssert_lacksB Try.underlying92 (by kernel_rfl) (by kernel_rfl) v xT w
  rcases Bool.eq_false_or_eq_true (a == b) with h | h
  all_goals
    rw [h] at heq ⊢
    clear h
    go_enter Try.func41, Try.ntmps41
    go_wp2
    refine wp_loop_rounds 1 ?_
    rw [rounds_succ]
    go_wp2
    go_ret
    exact ⟨rfl, rfl⟩
theorem fine_c (a : Int) (w : World) : Calls Try.prog 33 #[.iface 24 (.int .i64 a)] w fun e w' => e = .returned (.bool (a == 0)) ∧ w = w' := by
  go_enter Try.func33, Try.ntmps33
  go_wp2_with fail
  go_fit (errIs_c a 0 _)
  rintro e w' ⟨rfl, rfl⟩
  go_wp2
  go_ret
  exact ⟨rfl, rfl⟩
end Go.Proofs.Ytdnbpfohmhhmkaa
