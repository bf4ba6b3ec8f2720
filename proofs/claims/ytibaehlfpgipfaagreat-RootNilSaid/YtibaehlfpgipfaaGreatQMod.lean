/- NUMBERS TAKEN INTO A ROUND: 'int(uint(x) % uint(n))', each step as one thing. -/
import Derived.Test.YtibaehlfpgipfaaGreatQBase
namespace Go.Proofs.YtibaehlfpgipfaaGreat
open Go.RowKit

def cvSem (s d : TypeId) (v : Value) : Sem Next := do pure (.value (← convert s d v))
def rmSem (T : TypeId) (x y : Operand) (v u : Value) : Sem Next := do pure (.value (← (do eqGuard .rem T x y v u; binOp .rem T v u)))
theorem cv_up (a : Act) (dst : Option Tmp) (x : Operand) (ty : TypeId) (pos : String) (after : Array Edge) (guard : Option (Nat × Bool)) : execOp a.eval { dst := dst, op := .convert 3 138 x, type := ty, pos := pos, after := after, guard := guard } = cvSem 3 138 (a.eval x) := rfl
theorem cv_down (a : Act) (dst : Option Tmp) (x : Operand) (ty : TypeId) (pos : String) (after : Array Edge) (guard : Option (Nat × Bool)) : execOp a.eval { dst := dst, op := .convert 138 3 x, type := ty, pos := pos, after := after, guard := guard } = cvSem 138 3 (a.eval x) := rfl
theorem rm_uint (a : Act) (dst : Option Tmp) (x y : Operand) (t ty : TypeId) (pos : String) (after : Array Edge) (guard : Option (Nat × Bool)) : execOp a.eval { dst := dst, op := .binOp .rem 138 x y t, type := ty, pos := pos, after := after, guard := guard } = rmSem 138 x y (a.eval x) (a.eval y) := rfl
theorem cv_run {k k' : IntKind} {s d : TypeId} (hs : ∃ t, Tryz.prog.underlying s = some (.int t)) (hd : Tryz.prog.underlying d = some (.int k)) (n m : Int) (h : k.wrap n = m) (w : World) : (cvSem s d (.int k' n)).run Tryz.prog w = .ok (.value (.int k m)) w := by
  obtain ⟨t, hs⟩ := hs
  subst h
  unfold cvSem convert
  simp [Sem.run_bind, run_underlying hs, run_underlying hd, Conv.intToInt]
theorem rm_run (T : TypeId) (c n : Nat) (hn : 0 < n) (x y : Operand) (w : World) : (rmSem T x y (.int .u64 (c : Int)) (.int .u64 (n : Int))).run Tryz.prog w = .ok (.value (.int .u64 ((c % n : Nat) : Int))) w := by
  have h0 : (n : Int) ≠ 0 := by omega
  have h1 : (Op.intDiv .rem .u64 (c : Int) (n : Int)) = pure (.int .u64 ((c % n : Nat) : Int)) := by
    unfold Op.intDiv
    rw [if_neg h0]
    simp only [IntWalk.up_tmod rfl rfl]
  unfold rmSem eqGuard binOp
  simp only [ne_eq, not_true_eq_false, if_false, h1]
  rfl
/-- What a walk needs at 'int(uint(x) % uint(n))', x at will. -/
theorem round_facts (x : Int) (n : Nat) (hn : 0 < n) (hm : n ≤ maxLen) : ∃ c m : Nat, m < n ∧ (∀ w, (cvSem 3 138 (.int .i64 x)).run Tryz.prog w = .ok (.value (.int .u64 (c : Int))) w) ∧
    (∀ w, (cvSem 3 138 (.int .i64 (n : Int))).run Tryz.prog w = .ok (.value (.int .u64 (n : Int))) w) ∧ (∀ x y w, (rmSem 138 x y (.int .u64 (c : Int)) (.int .u64 (n : Int))).run Tryz.prog w = .ok (.value (.int .u64 (m : Int))) w) ∧
    (∀ w, (cvSem 138 3 (.int .u64 (m : Int))).run Tryz.prog w = .ok (.value (.int .i64 (m : Int))) w) := by
  unfold maxLen at hm
  have h0 : 0 ≤ IntKind.u64.wrap x := by simp [IntKind.wrap, IntKind.bits, IntKind.signed]; omega
  have hmod := Nat.mod_lt (IntKind.u64.wrap x).toNat hn
  refine ⟨(IntKind.u64.wrap x).toNat, (IntKind.u64.wrap x).toNat % n, hmod, ?_, ?_, ?_, ?_⟩
  · exact cv_run ⟨_, Tryz.underlying3⟩ Tryz.underlying138 x _ (by omega)
  · exact cv_run ⟨_, Tryz.underlying3⟩ Tryz.underlying138 _ _ (IntWalk.u64_in _ (by omega))
  · exact fun x y w => rm_run _ _ n hn x y w
  · exact cv_run ⟨_, Tryz.underlying138⟩ Tryz.underlying3 _ _ (IntWalk.i64_in _ (by omega))
end Go.Proofs.YtibaehlfpgipfaaGreat
